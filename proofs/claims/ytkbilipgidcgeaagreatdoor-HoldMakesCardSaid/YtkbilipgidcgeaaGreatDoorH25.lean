/- image.Right at the image of the example: starts, needs, nodes, info. image.Right at the image of the example: info, nodes, Right. image.Right at the image of the example: nodes, Right. tls: New, make. -/
import Derived.Deep.CutBlock
import Derived.Test.YtkbilipgidcgeaaGreatDoorH24
set_option linter.unusedVariables false
set_option linter.unusedSimpArgs false
namespace Go.Proofs.YtkbilipgidcgeaaGreatDoor.Tiny
open Go.RowKit Go.ChangeMaps
attribute [local go_sem] ext_cell ext_frozen run_store_func mk_ints0 mk_ints1 mk_ints2 mk_lists0 mk_lists1 mk_lists2 ta_ints run_makeMap


theorem wpList_load_rowG {P : Program} {ops : Array Oper} {rest : List Oper} {o : Oper} {a : Act} {w : World} {Q : Exit → Act → World → Prop} (hgd : Region.wanted o (yielded ops a.tmps) = true) (ty : TypeId) (x : Operand) (ho : o.op = .load ty x)
    (g : Nat) (hx : a.eval x = .pointer (some ⟨g, 0, none⟩)) (t : TypeId) (cs : Array Value) (fr : Nat × Nat) (d : TypeDesc) (hg : w.heap[g]? = some (.cells cs t fr))
    (hu : P.underlying ty = some d) (hd : (match d with | .struct _ | .array _ _ => true | _ => false) = true) (hi : (P.info? ty).map (·.size) = some cs.size)
    (h : wpList P ops Q rest (a.put o.dst (.agg cs)) w) : wpList P ops Q (o :: rest) a w :=
  wpList_step fun K hK => by simp only [hgd, if_true]; exact wp_load_row ty x ho g hx t cs fr d hg hu hd hi (hK _ _ h)

theorem labGet0 (B : ByteArray) : (labCells B)[(0 : Nat)]? = some (.string labS) := by unfold labCells; rfl
theorem labGet1 (B : ByteArray) : (labCells B)[(1 : Nat)]? = some (.bool false) := by unfold labCells; rfl
theorem labGet2 (B : ByteArray) : (labCells B)[(2 : Nat)]? = some (.int .i64 256) := by unfold labCells; rfl
theorem labGet3 (B : ByteArray) : (labCells B)[(3 : Nat)]? = some (.int .i64 256) := by unfold labCells; rfl
theorem labGet4 (B : ByteArray) : (labCells B)[(4 : Nat)]? = some (.int .i64 512) := by unfold labCells; rfl
theorem labGet5 (B : ByteArray) : (labCells B)[(5 : Nat)]? = some (.string B) := by unfold labCells; rfl
theorem labGet6 (B : ByteArray) : (labCells B)[(6 : Nat)]? = some (.string ⟨#[]⟩) := by unfold labCells; rfl
theorem labGet7 (B : ByteArray) : (labCells B)[(7 : Nat)]? = some (.int .i64 0) := by unfold labCells; rfl
theorem labGet8 (B : ByteArray) : (labCells B)[(8 : Nat)]? = some (.slice none 0 0) := by unfold labCells; rfl
theorem labGet9 (B : ByteArray) : (labCells B)[(9 : Nat)]? = some (.slice none 0 0) := by unfold labCells; rfl
theorem labGet10 (B : ByteArray) : (labCells B)[(10 : Nat)]? = some (.slice none 0 0) := by unfold labCells; rfl
theorem labGet11 (B : ByteArray) : (labCells B)[(11 : Nat)]? = some (.slice none 0 0) := by unfold labCells; rfl
theorem labGet12 (B : ByteArray) : (labCells B)[(12 : Nat)]? = some (.slice none 0 0) := by unfold labCells; rfl
theorem labGet13 (B : ByteArray) : (labCells B)[(13 : Nat)]? = some (.slice none 0 0) := by unfold labCells; rfl
theorem labGet14 (B : ByteArray) : (labCells B)[(14 : Nat)]? = some (.slice none 0 0) := by unfold labCells; rfl
theorem labGet15 (B : ByteArray) : (labCells B)[(15 : Nat)]? = some (.slice none 0 0) := by unfold labCells; rfl
theorem labGet16 (B : ByteArray) : (labCells B)[(16 : Nat)]? = some (.int .i64 0) := by unfold labCells; rfl
theorem labGet17 (B : ByteArray) : (labCells B)[(17 : Nat)]? = some (.slice none 0 0) := by unfold labCells; rfl
theorem labGet18 (B : ByteArray) : (labCells B)[(18 : Nat)]? = some (.slice none 0 0) := by unfold labCells; rfl
theorem labGet19 (B : ByteArray) : (labCells B)[(19 : Nat)]? = some (.slice none 0 0) := by unfold labCells; rfl
theorem labGet20 (B : ByteArray) : (labCells B)[(20 : Nat)]? = some (.slice none 0 0) := by unfold labCells; rfl
theorem labGet21 (B : ByteArray) : (labCells B)[(21 : Nat)]? = some (.slice none 0 0) := by unfold labCells; rfl
theorem labGet22 (B : ByteArray) : (labCells B)[(22 : Nat)]? = some (.slice none 0 0) := by unfold labCells; rfl
theorem labGet23 (B : ByteArray) : (labCells B)[(23 : Nat)]? = some (.slice none 0 0) := by unfold labCells; rfl
theorem labGet24 (B : ByteArray) : (labCells B)[(24 : Nat)]? = some (.slice none 0 0) := by unfold labCells; rfl
theorem labGet25 (B : ByteArray) : (labCells B)[(25 : Nat)]? = some (.slice none 0 0) := by unfold labCells; rfl
theorem lab_size (B : ByteArray) : (Tryz.prog.info? 45).map (·.size) = some (labCells B).size := by unfold labCells; kernel_rfl
attribute [local irreducible] labCells
attribute [local go_sem] labGet0 labGet1 labGet2 labGet3 labGet4 labGet5 labGet6 labGet7 labGet8 labGet9 labGet10 labGet11 labGet12 labGet13 labGet14 labGet15 labGet16 labGet17 labGet18 labGet19 labGet20 labGet21 labGet22 labGet23 labGet24 labGet25

set_option maxRecDepth 100000 in
set_option maxHeartbeats 1000000 in
theorem istarts (B : ByteArray) (w : World) : Calls Tryz.prog 59 #[.agg (labCells B)] w fun e w' => e = .returned (.bool true) ∧ Below w.heap.size w w' := by
  have hg := heap_alloc_new w (.cells (labCells B) 45)
  have c14 := cell_in (v := .slice none 0 0) hg 14 (by unfold labCells; rfl)
  have c15 := cell_in (v := .slice none 0 0) hg 15 (by unfold labCells; rfl)
  have c16 := cell_in (v := .int .i64 0) hg 16 (by unfold labCells; rfl)
  have c1 := cell_in (v := .bool false) hg 1 (by unfold labCells; rfl)
  have HG := Lib.hid hg
  clear hg
  go_enter Tryz.func59, Tryz.ntmps59
  go_wp2_with (first
    | (go_at_call 103; refine (all_int _ _).mono ?_; rintro e wz ⟨rfl, rfl⟩)
    | (refine wpList_load_rowG (by rfl) 45 (.tmp 1) rfl w.heap.size rfl 45 (labCells B) (0, 0) _ HG.out Tryz.underlying45 rfl (lab_size B) ?_)
    | (go_at_call 112; refine (iinstruction B _).mono ?_; rintro e w1 ⟨rfl, hb1⟩; have d1 := (hb1.cell (p := ⟨w.heap.size, 1, none⟩) (show w.heap.size < (w.alloc (.cells (labCells B) 45)).heap.size by simp)).trans c1; have H1 := Lib.hid hb1; clear hb1))
  go_ret
  exact ⟨by simp, below_call (by go_grown) H1.out⟩

set_option maxRecDepth 100000 in
set_option maxHeartbeats 1000000 in
theorem ineeds (B : ByteArray) (w : World) : Calls Tryz.prog 60 #[.agg (labCells B)] w fun e w' => e = .returned (.bool true) ∧ Below w.heap.size w w' := by
  have hg := heap_alloc_new w (.cells (labCells B) 45)
  have c0 := cell_in (v := .string labS) hg 0 (by unfold labCells; rfl)
  have c17 := cell_in (v := .slice none 0 0) hg 17 (by unfold labCells; rfl)
  have c18 := cell_in (v := .slice none 0 0) hg 18 (by unfold labCells; rfl)
  clear hg
  go_enter Tryz.func60, Tryz.ntmps60
  go_wp2_with (first
    | (go_at_call 124; refine (all_string _ _).mono ?_; rintro e wz ⟨rfl, rfl⟩)
    | (go_at_call 123; refine (vright0 _).mono ?_; rintro e w1 ⟨rfl, hb1⟩; have H1 := Lib.hid hb1; clear hb1))
  have hM : ((w.alloc (.cells (labCells B) 45)).alloc (.map #[] 0)).heap[w.heap.size + 1]? = some (.map #[] 0) := heap_alloc2_new _ _ _
  have hu := map_new (P := Tryz.prog) (key := .string labS) (val := .bool true) Tryz.underlying83 hM Tryz.underlying9 trivial rfl
  obtain ⟨W, hW⟩ : ∃ W, W = setBlock ((w.alloc (.cells (labCells B) 45)).alloc (.map #[] 0)) (w.heap.size + 1) (.map ((#[] : Array MapEntry).push ⟨.string labS, .bool true, 0⟩) (0 + 1)) := ⟨_, rfl⟩
  rw [← hW] at hu
  rw [hu]
  have hg : W.heap[w.heap.size]? = some (.cells (labCells B) 45 (0, 0)) := by rw [hW, setBlock_other _ _ (by omega)]; exact block_old (heap_alloc_new _ _)
  have hb : Below w.heap.size w W := by
    rw [hW]
    refine ⟨rfl, rfl, rfl, by simp [setBlock]; omega, fun k hk => ?_⟩
    rw [setBlock_other _ _ (by omega)]
    exact (((Below.refl _ _).alloc (Nat.le_refl _) _).alloc (by simp) _).block k hk
  have d17 := cell_in (v := .slice none 0 0) hg 17 (labGet17 B)
  have d18 := cell_in (v := .slice none 0 0) hg 18 (labGet18 B)
  have lg := lt_of_block hg
  have HB := Lib.hid hb
  clear hM hu hW hg hb c0 c17 c18
  go_wp2_with (first
    | (go_at_call 124; refine (all_string _ _).mono ?_; rintro e wz ⟨rfl, rfl⟩)
    | (go_at_call 123; refine (vright0 _).mono ?_; rintro e w1 ⟨rfl, hb1⟩; have hz1 := size_call hb1; have x17 := (hb1.cell (p := ⟨w.heap.size, 17, none⟩) (by simp; omega)).trans ((World.cell?_alloc_past _ _ _ lg).trans d17); have H1 := Lib.hid (below_call ((Below.refl _ _).alloc (Nat.le_refl _) _) hb1); clear hb1))
  go_ret
  exact ⟨rfl, HB.out.trans (H1.out.mono HB.out.size)⟩

set_option maxRecDepth 100000 in
set_option maxHeartbeats 1000000 in
theorem rows_Inline (B : ByteArray) (fn : Fn) (x c : Array Value) (w : World) : Calls Tryz.prog 133 #[.agg (labCells B), .slice none 0 0, .func fn x c] w fun e w' => e = .returned (.bool true) ∧ Below w.heap.size w w' := by
  go_enter Tryz.func133, Tryz.ntmps133
  go_wp2_with (go_at_call 135; refine (all_Inline _ _).mono ?_; rintro e wz ⟨rfl, rfl⟩)
  go_ret
  exact ⟨rfl, by go_grown⟩

set_option maxRecDepth 100000 in
set_option maxHeartbeats 1000000 in
theorem rows_Var (B : ByteArray) (fn : Fn) (x c : Array Value) (w : World) : Calls Tryz.prog 137 #[.agg (labCells B), .slice none 0 0, .func fn x c] w fun e w' => e = .returned (.bool true) ∧ Below w.heap.size w w' := by
  go_enter Tryz.func137, Tryz.ntmps137
  go_wp2_with (go_at_call 139; refine (all_Var _ _).mono ?_; rintro e wz ⟨rfl, rfl⟩)
  go_ret
  exact ⟨rfl, by go_grown⟩

set_option maxRecDepth 100000 in
set_option maxHeartbeats 1000000 in
theorem rows_Depth (B : ByteArray) (fn : Fn) (x c : Array Value) (w : World) : Calls Tryz.prog 141 #[.agg (labCells B), .slice none 0 0, .func fn x c] w fun e w' => e = .returned (.bool true) ∧ Below w.heap.size w w' := by
  go_enter Tryz.func141, Tryz.ntmps141
  go_wp2_with (go_at_call 143; refine (all_Depth _ _).mono ?_; rintro e wz ⟨rfl, rfl⟩)
  go_ret
  exact ⟨rfl, by go_grown⟩

end Go.Proofs.YtkbilipgidcgeaaGreatDoor.Tiny

namespace Go.Proofs.YtkbilipgidcgeaaGreatDoor.Tiny
open Go.RowKit Go.ChangeMaps
attribute [local go_sem] ext_cell ext_frozen run_store_func mk_ints0 mk_ints1 mk_ints2 mk_lists0 mk_lists1 mk_lists2 ta_ints run_makeMap


attribute [local irreducible] labCells
attribute [local go_sem] labGet0 labGet1 labGet2 labGet3 labGet4 labGet5 labGet6 labGet7 labGet8 labGet9 labGet10 labGet11 labGet12 labGet13 labGet14 labGet15 labGet16 labGet17 labGet18 labGet19 labGet20 labGet21 labGet22 labGet23 labGet24 labGet25

set_option maxRecDepth 100000 in
set_option maxHeartbeats 1000000 in
theorem iinfo (B : ByteArray) (w : World) : Calls Tryz.prog 61 #[.agg (labCells B)] w fun e w' => e = .returned (.bool true) ∧ Below w.heap.size w w' := by
  go_enter Tryz.func61, Tryz.ntmps61
  go_upto_region 6 with (first
    | (go_at_call 126; refine (all_Mark _ _).mono ?_; rintro e wz ⟨rfl, rfl⟩)
    | (go_at_call 129; refine (all_Line _ _).mono ?_; rintro e wz ⟨rfl, rfl⟩)
    | (go_at_call 131; refine (all_Span _ _).mono ?_; rintro e wz ⟨rfl, rfl⟩))
  refine name_world fun W hW => ?_
  have hl : W.heap[w.heap.size]? = some (.cells (labCells B) 45 (0, 0)) := by rw [← hW]; exact block_old (block_old (heap_alloc_new _ _))
  have hf : W.heap[w.heap.size + 1]? = some (.cells [.slice none 0 0, .slice none 0 0, .slice none 0 0, .slice none 0 0, .slice none 0 0, .slice none 0 0].toArray 42 (0, 0)) := by rw [← hW]; exact block_old (heap_alloc2_new _ _ _)
  have hB : Below w.heap.size w W := by rw [← hW]; go_grown
  clear hW
  have c3 := cell_l hf 3 rfl
  have HL := Lib.hid hl
  have HF := Lib.hid (And.intro hf hB)
  clear hl hf hB
  go_upto_region 7 with (first
    | (refine wpList_load_row rfl 45 (.tmp 1) rfl w.heap.size rfl 45 (labCells B) (0, 0) _ HL.out Tryz.underlying45 rfl (lab_size B) ?_)
    | (go_at_call 133; refine (rows_Inline B _ _ _ _).mono ?_; rintro e W1 ⟨rfl, hb1⟩; have hl1 := (hb1.block _ (lt_of_block HL.out)).trans HL.out; have hf1 := (hb1.block _ (lt_of_block HF.out.1)).trans HF.out.1; have c3 := cell_l hf1 3 rfl; have c4 := cell_l hf1 4 rfl; have c5 := cell_l hf1 5 rfl; have HL1 := Lib.hid hl1; have HF1 := Lib.hid (And.intro hf1 (HF.out.2.trans (hb1.mono HF.out.2.size))); clear hb1 hl1 hf1)
    | (go_at_call 135; refine (all_Inline _ _).mono ?_; rintro e wz ⟨rfl, rfl⟩))
  go_upto_region 8 with (first
    | (refine wpList_load_row rfl 45 (.tmp 1) rfl w.heap.size rfl 45 (labCells B) (0, 0) _ HL1.out Tryz.underlying45 rfl (lab_size B) ?_)
    | (go_at_call 137; refine (rows_Var B _ _ _ _).mono ?_; rintro e W2 ⟨rfl, hb2⟩; have hl2 := (hb2.block _ (lt_of_block HL1.out)).trans HL1.out; have hf2 := (hb2.block _ (lt_of_block HF1.out.1)).trans HF1.out.1; have c3 := cell_l hf2 3 rfl; have c4 := cell_l hf2 4 rfl; have c5 := cell_l hf2 5 rfl; have HL2 := Lib.hid hl2; have HF2 := Lib.hid (And.intro hf2 (HF1.out.2.trans (hb2.mono HF1.out.2.size))); clear hb2 hl2 hf2)
    | (go_at_call 139; refine (all_Var _ _).mono ?_; rintro e wz ⟨rfl, rfl⟩))
  go_wp2_with (first
    | (refine wpList_load_row rfl 45 (.tmp 1) rfl w.heap.size rfl 45 (labCells B) (0, 0) _ HL2.out Tryz.underlying45 rfl (lab_size B) ?_)
    | (go_at_call 141; refine (rows_Depth B _ _ _ _).mono ?_; rintro e W3 ⟨rfl, hb3⟩; have hl3 := (hb3.block _ (lt_of_block HL2.out)).trans HL2.out; have hf3 := (hb3.block _ (lt_of_block HF2.out.1)).trans HF2.out.1; have c3 := cell_l hf3 3 rfl; have c4 := cell_l hf3 4 rfl; have c5 := cell_l hf3 5 rfl; have HL3 := Lib.hid hl3; have HF3 := Lib.hid (And.intro hf3 (HF2.out.2.trans (hb3.mono HF2.out.2.size))); clear hb3 hl3 hf3)
    | (go_at_call 143; refine (all_Depth _ _).mono ?_; rintro e wz ⟨rfl, rfl⟩))
  go_ret
  exact ⟨rfl, HF3.out.2⟩
end Go.Proofs.YtkbilipgidcgeaaGreatDoor.Tiny

namespace Go.Proofs.YtkbilipgidcgeaaGreatDoor.Tiny
open Go.RowKit Go.ChangeMaps
attribute [local go_sem] ext_cell ext_frozen run_store_func mk_ints0 mk_ints1 mk_ints2 mk_lists0 mk_lists1 mk_lists2 ta_ints run_makeMap


attribute [local irreducible] labCells
attribute [local go_sem] labGet0 labGet1 labGet2 labGet3 labGet4 labGet5 labGet6 labGet7 labGet8 labGet9 labGet10 labGet11 labGet12 labGet13 labGet14 labGet15 labGet16 labGet17 labGet18 labGet19 labGet20 labGet21 labGet22 labGet23 labGet24 labGet25


set_option maxRecDepth 100000 in
theorem clone_spans_nil (w : World) : Calls Tryz.prog 188 #[.slice none 0 0] w fun e w' => e = .returned (.slice none 0 0) ∧ w' = w := by
  have hen := fun (w : World) (a : Option Addr) (l c : Nat) => _root_.Go.run_eql_slice_nil (P := Tryz.prog) w 37 49 a l c Tryz.underlying37
  go_enter Tryz.func188, Tryz.ntmps188
  go_wp2
  go_ret
  exact ⟨rfl, rfl⟩

set_option maxRecDepth 100000 in
theorem delete_spans_nil (f : Value) (w : World) : Calls Tryz.prog 187 #[.slice none 0 0, f] w fun e w' => e = .returned (.slice none 0 0) ∧ w = w' := by
  go_enter Tryz.func187, Tryz.ntmps187
  (go_wp2; repeat (any_goals (first | (refine wp_loop_rounds 2 ?_; rw [rounds_succ]; go_wp2) | (rw [rounds_succ]; go_wp2))))
  go_ret
  exact ⟨rfl, rfl⟩

set_option maxRecDepth 100000 in
theorem pdq_spans_nil (f : Value) (k : Nat) (w : World) : Calls Tryz.prog 275 #[.slice none 0 0, .int .i64 0, .int .i64 0, .int .i64 k, f] w fun e w' => e = .returned (.tuple #[]) ∧ w = w' := by
  go_enter Tryz.func275, Tryz.ntmps275
  (go_wp2; repeat (any_goals (first | (refine wp_loop_rounds 2 ?_; rw [rounds_succ]; go_wp2) | (rw [rounds_succ]; go_wp2))))
  go_returns
  exact ⟨rfl, rfl⟩

set_option maxRecDepth 100000 in
theorem sort_spans_nil (f : Value) (w : World) : Calls Tryz.prog 190 #[.slice none 0 0, f] w fun e w' => e = .returned (.tuple #[]) ∧ w = w' := by
  go_enter Tryz.func190, Tryz.ntmps190
  (go_wp2_with (first | (go_at_call 273; refine (Tryz.bits_Len _ _ (by omega) (by omega)).mono ?_; rintro e w1 ⟨rfl, rfl⟩) | (go_at_call 275; refine (pdq_spans_nil _ _ _).mono ?_; rintro e w1 ⟨rfl, rfl⟩)); repeat (any_goals (first | (refine wp_loop_rounds 2 ?_; rw [rounds_succ]; go_wp2_with (first | (go_at_call 273; refine (Tryz.bits_Len _ _ (by omega) (by omega)).mono ?_; rintro e w1 ⟨rfl, rfl⟩) | (go_at_call 275; refine (pdq_spans_nil _ _ _).mono ?_; rintro e w1 ⟨rfl, rfl⟩))) | (rw [rounds_succ]; go_wp2_with (first | (go_at_call 273; refine (Tryz.bits_Len _ _ (by omega) (by omega)).mono ?_; rintro e w1 ⟨rfl, rfl⟩) | (go_at_call 275; refine (pdq_spans_nil _ _ _).mono ?_; rintro e w1 ⟨rfl, rfl⟩))))))
  go_end0
  exact ⟨rfl, rfl⟩

set_option maxRecDepth 100000 in
theorem iapart (w : World) : Calls Tryz.prog 113 #[.slice none 0 0] w fun e w' => e = .returned (.bool true) ∧ Below w.heap.size w w' := by
  go_enter Tryz.func113, Tryz.ntmps113
  (go_wp2_with (first | (go_at_call 188; refine (clone_spans_nil _).mono ?_; rintro e w1 ⟨rfl, rfl⟩) | (go_at_call 187; refine (delete_spans_nil _ _).mono ?_; rintro e w1 ⟨rfl, rfl⟩) | (go_at_call 190; refine (sort_spans_nil _ _).mono ?_; rintro e w1 ⟨rfl, rfl⟩) | (go_at_call 131; refine (all_Span _ _).mono ?_; rintro e w1 ⟨rfl, rfl⟩)); repeat (any_goals (first | (refine wp_loop_rounds 2 ?_; rw [rounds_succ]; go_wp2_with (first | (go_at_call 188; refine (clone_spans_nil _).mono ?_; rintro e w1 ⟨rfl, rfl⟩) | (go_at_call 187; refine (delete_spans_nil _ _).mono ?_; rintro e w1 ⟨rfl, rfl⟩) | (go_at_call 190; refine (sort_spans_nil _ _).mono ?_; rintro e w1 ⟨rfl, rfl⟩) | (go_at_call 131; refine (all_Span _ _).mono ?_; rintro e w1 ⟨rfl, rfl⟩))) | (rw [rounds_succ]; go_wp2_with (first | (go_at_call 188; refine (clone_spans_nil _).mono ?_; rintro e w1 ⟨rfl, rfl⟩) | (go_at_call 187; refine (delete_spans_nil _ _).mono ?_; rintro e w1 ⟨rfl, rfl⟩) | (go_at_call 190; refine (sort_spans_nil _ _).mono ?_; rintro e w1 ⟨rfl, rfl⟩) | (go_at_call 131; refine (all_Span _ _).mono ?_; rintro e w1 ⟨rfl, rfl⟩))))))
  go_ret
  exact ⟨rfl, by go_grown⟩

set_option maxRecDepth 100000 in
set_option maxHeartbeats 1000000 in
theorem inodes (B : ByteArray) (w : World) : Calls Tryz.prog 55 #[.agg (labCells B)] w fun e w' => e = .returned (.bool true) ∧ Below w.heap.size w w' := by
  go_enter Tryz.func55, Tryz.ntmps55
  (go_wp2_with (first | (go_at_call 108; refine (all_Placed _ _).mono ?_; rintro e w1 ⟨rfl, rfl⟩) | (go_at_call 113; refine (iapart wA).mono ?_; rintro e wB ⟨rfl, hb2⟩; have HB := Lib.hid (HA.out.trans (hb2.mono HA.out.size)); clear hb2) | (go_at_call 113; refine (iapart _).mono ?_; rintro e wA ⟨rfl, hb1⟩; have HA := Lib.hid (show Below w.heap.size w wA from below_call (by go_grown) hb1); clear hb1)); repeat (any_goals (first | (refine wp_loop_rounds 2 ?_; rw [rounds_succ]; go_wp2_with (first | (go_at_call 108; refine (all_Placed _ _).mono ?_; rintro e w1 ⟨rfl, rfl⟩) | (go_at_call 113; refine (iapart wA).mono ?_; rintro e wB ⟨rfl, hb2⟩; have HB := Lib.hid (HA.out.trans (hb2.mono HA.out.size)); clear hb2) | (go_at_call 113; refine (iapart _).mono ?_; rintro e wA ⟨rfl, hb1⟩; have HA := Lib.hid (show Below w.heap.size w wA from below_call (by go_grown) hb1); clear hb1))) | (rw [rounds_succ]; go_wp2_with (first | (go_at_call 108; refine (all_Placed _ _).mono ?_; rintro e w1 ⟨rfl, rfl⟩) | (go_at_call 113; refine (iapart wA).mono ?_; rintro e wB ⟨rfl, hb2⟩; have HB := Lib.hid (HA.out.trans (hb2.mono HA.out.size)); clear hb2) | (go_at_call 113; refine (iapart _).mono ?_; rintro e wA ⟨rfl, hb1⟩; have HA := Lib.hid (show Below w.heap.size w wA from below_call (by go_grown) hb1); clear hb1))))))
  go_ret
  exact ⟨rfl, HB.out⟩

set_option maxRecDepth 100000 in
set_option maxHeartbeats 1000000 in
theorem iright (B : ByteArray) (hB : B.size = 256) (w : World) : Calls Tryz.prog 22 #[.agg (labCells B)] w fun e w' => e = .returned (.bool true) ∧ Below w.heap.size w w' := by
  have HS := Lib.hid hB
  have HL0 := Lib.hid (heap_alloc_new w (.cells (labCells B) 45))
  have HB0 := Lib.hid ((Below.refl w.heap.size w).alloc (Nat.le_refl _) (.cells (labCells B) 45))
  clear hB
  go_enter Tryz.func22, Tryz.ntmps22
  go_wp2_with (first
    | (refine wpList_load_row rfl 45 (.tmp 1) rfl w.heap.size rfl 45 (labCells B) (0, 0) _ HL0.out Tryz.underlying45 rfl (lab_size B) ?_)
    | (go_at_call 54; refine (isizes B HS.out _).mono ?_; rintro e w1 ⟨rfl, hb⟩; have HL1 := Lib.hid ((hb.block _ (lt_of_block HL0.out)).trans HL0.out); have HB1 := Lib.hid (HB0.out.trans (hb.mono HB0.out.size)); clear hb)
    | (refine wpList_load_rowG (by rfl) 45 (.tmp 1) rfl w.heap.size rfl 45 (labCells B) (0, 0) _ HL1.out Tryz.underlying45 rfl (lab_size B) ?_)
    | (go_at_call 55; refine (inodes B _).mono ?_; rintro e w2 ⟨rfl, hb⟩; have HL2 := Lib.hid ((hb.block _ (lt_of_block HL1.out)).trans HL1.out); have HB2 := Lib.hid (HB1.out.trans (hb.mono HB1.out.size)); clear hb)
    | (refine wpList_load_rowG (by rfl) 45 (.tmp 1) rfl w.heap.size rfl 45 (labCells B) (0, 0) _ HL2.out Tryz.underlying45 rfl (lab_size B) ?_)
    | (go_at_call 56; refine (iexports B _).mono ?_; rintro e w3 ⟨rfl, hb⟩; have HL3 := Lib.hid ((hb.block _ (lt_of_block HL2.out)).trans HL2.out); have HB3 := Lib.hid (HB2.out.trans (hb.mono HB2.out.size)); clear hb)
    | (refine wpList_load_rowG (by rfl) 45 (.tmp 1) rfl w.heap.size rfl 45 (labCells B) (0, 0) _ HL3.out Tryz.underlying45 rfl (lab_size B) ?_)
    | (go_at_call 57; refine (iimports B _).mono ?_; rintro e w4 ⟨rfl, hb⟩; have HL4 := Lib.hid ((hb.block _ (lt_of_block HL3.out)).trans HL3.out); have HB4 := Lib.hid (HB3.out.trans (hb.mono HB3.out.size)); clear hb)
    | (refine wpList_load_rowG (by rfl) 45 (.tmp 1) rfl w.heap.size rfl 45 (labCells B) (0, 0) _ HL4.out Tryz.underlying45 rfl (lab_size B) ?_)
    | (go_at_call 58; refine (idyns B _).mono ?_; rintro e w5 ⟨rfl, hb⟩; have HL5 := Lib.hid ((hb.block _ (lt_of_block HL4.out)).trans HL4.out); have HB5 := Lib.hid (HB4.out.trans (hb.mono HB4.out.size)); clear hb)
    | (refine wpList_load_rowG (by rfl) 45 (.tmp 1) rfl w.heap.size rfl 45 (labCells B) (0, 0) _ HL5.out Tryz.underlying45 rfl (lab_size B) ?_)
    | (go_at_call 59; refine (istarts B _).mono ?_; rintro e w6 ⟨rfl, hb⟩; have HL6 := Lib.hid ((hb.block _ (lt_of_block HL5.out)).trans HL5.out); have HB6 := Lib.hid (HB5.out.trans (hb.mono HB5.out.size)); clear hb)
    | (refine wpList_load_rowG (by rfl) 45 (.tmp 1) rfl w.heap.size rfl 45 (labCells B) (0, 0) _ HL6.out Tryz.underlying45 rfl (lab_size B) ?_)
    | (go_at_call 60; refine (ineeds B _).mono ?_; rintro e w7 ⟨rfl, hb⟩; have HL7 := Lib.hid ((hb.block _ (lt_of_block HL6.out)).trans HL6.out); have HB7 := Lib.hid (HB6.out.trans (hb.mono HB6.out.size)); clear hb)
    | (refine wpList_load_rowG (by rfl) 45 (.tmp 1) rfl w.heap.size rfl 45 (labCells B) (0, 0) _ HL7.out Tryz.underlying45 rfl (lab_size B) ?_)
    | (go_at_call 61; refine (iinfo B _).mono ?_; rintro e w8 ⟨rfl, hb⟩; have HL8 := Lib.hid ((hb.block _ (lt_of_block HL7.out)).trans HL7.out); have HB8 := Lib.hid (HB7.out.trans (hb.mono HB7.out.size)); clear hb)
    | (refine wpList_load_rowG (by rfl) 45 (.tmp 1) rfl w.heap.size rfl 45 (labCells B) (0, 0) _ HL8.out Tryz.underlying45 rfl (lab_size B) ?_)
    | (go_at_call 62; refine (ichanges B _).mono ?_; rintro e w9 ⟨rfl, hb⟩; have HL9 := Lib.hid ((hb.block _ (lt_of_block HL8.out)).trans HL8.out); have HB9 := Lib.hid (HB8.out.trans (hb.mono HB8.out.size)); clear hb))
  go_ret
  exact ⟨rfl, HB9.out⟩
end Go.Proofs.YtkbilipgidcgeaaGreatDoor.Tiny

namespace Go.Proofs.YtkbilipgidcgeaaGreatDoor.Tiny
open Go.RowKit Go.ChangeMaps
attribute [local go_sem] ext_cell ext_frozen run_store_func mk_ints0 mk_ints1 mk_ints2 mk_lists0 mk_lists1 mk_lists2 ta_ints run_makeMap

attribute [local irreducible] labCells
attribute [local go_sem] labGet0 labGet1 labGet2 labGet3 labGet4 labGet5 labGet6 labGet7 labGet8 labGet9 labGet10 labGet11 labGet12 labGet13 labGet14 labGet15 labGet16 labGet17 labGet18 labGet19 labGet20 labGet21 labGet22 labGet23 labGet24 labGet25

def blocksC (s mo th at_ : Nat) : List Value := [.pointer (some ⟨s, 0, none⟩), .map (some mo), .map (some th), .map (some at_)]

theorem lab_one (B : ByteArray) : (labCells B).all (·.oneCell') = true := by unfold labCells; simp [Value.oneCell']

set_option maxRecDepth 100000 in
set_option maxHeartbeats 1000000 in
theorem tnew (s : Nat) (w : World) : Calls Tryz.prog 21 #[.pointer (some ⟨s, 0, none⟩)] w fun e w' =>
    e = .returned (.pointer (some ⟨w.heap.size + 3, 0, none⟩)) ∧ w' = (((w.alloc (.map #[] 0)).alloc (.map #[] 0)).alloc (.map #[] 0)).alloc (.cells (blocksC s w.heap.size (w.heap.size + 1) (w.heap.size + 2)).toArray 146) := by
  unfold blocksC
  go_enter Tryz.func21, Tryz.ntmps21
  go_wp2
  go_ret
  exact ⟨rfl, rfl⟩

def zeroImg : Value := .agg #[.string ⟨#[]⟩, .bool false, .int .i64 0, .int .i64 0, .int .i64 0, .string ⟨#[]⟩, .string ⟨#[]⟩, .int .i64 0, .slice none 0 0, .slice none 0 0, .slice none 0 0, .slice none 0 0, .slice none 0 0, .slice none 0 0, .slice none 0 0, .slice none 0 0,
  .int .i64 0, .slice none 0 0, .slice none 0 0, .slice none 0 0, .slice none 0 0, .slice none 0 0, .slice none 0 0, .slice none 0 0, .slice none 0 0, .slice none 0 0]
theorem zero_img (w : World) : (zeroValue 45).run Tryz.prog w = .ok zeroImg w := by kernel_rfl

set_option maxRecDepth 100000 in
set_option maxHeartbeats 1000000 in
theorem tmake (b s mo th at_ t : Nat) (B : ByteArray) (w : World) (hb : w.heap[b]? = some (.cells (blocksC s mo th at_).toArray 146 (0, 0))) (hm : w.heap[mo]? = some (.map #[⟨.int .i64 0, .agg (labCells B), 0⟩] 1)) :
    Calls Tryz.prog 162 #[.pointer (some ⟨b, 0, none⟩), .int .i64 t, .int .i64 0] w fun e w' => e = .returned (.bool true) ∧ Below w.heap.size w w' := by
  unfold blocksC at hb
  have c1 := cell_l hb 1 rfl
  have hl := map_hit (P := Tryz.prog) (key := .int .i64 0) false 0 Tryz.underlying142 hm Tryz.underlying3 rfl (v := .agg (labCells B)) rfl
  simp only [Bool.false_eq_true, if_false] at hl
  clear hb hm
  go_enter Tryz.func162, Tryz.ntmps162
  go_wp2_with ((with_reducible refine at_store_law ?_); refine wpList_store_row rfl 45 _ _ rfl _ _ rfl rfl _ _ (by (repeat (first | assumption | exact heap_alloc_new _ _ | refine block_old ?_ | refine block_drew ?_ | apply setRow_heap | (refine (setRow_other _ _ _ _ ?_).trans ?_; omega)))) (lab_size B) (by unfold labCells; rfl) (lab_one B) ?_; (try simp only [World.setRow_alloc_new]))
  go_ret
  exact ⟨rfl, by go_grown⟩
end Go.Proofs.YtkbilipgidcgeaaGreatDoor.Tiny
