/- image.Right at the image of the example: starts, needs, nodes, info. image.Right at the image of the example: info, nodes, Right. image.Right at the image of the example: nodes, Right. tls: New, make. -/
import Derived.Deep.CutBlock
import Derived.Test.YtacaejpamidkcaaGreatDoorR21
set_option linter.unusedVariables false
set_option linter.unusedSimpArgs false
set_option maxRecDepth 100000
set_option maxHeartbeats 1000000
namespace Go.Proofs.YtacaejpamidkcaaGreatDoor
namespace Two
open Go.RowKit Go.ChangeMaps
attribute [local go_sem] ak_ af_ aq_ be_ bf_ bg_ a6_ a7_ a8_ cb_ run_makeMap
theorem bp_ {P : Program} {ops : Array Oper} {rest : List Oper} {o : Oper} {a : Act} {w : World} {Q : Exit → Act → World → Prop} (hgd : Region.wanted o (yielded ops a.tmps) = true) (ty : TypeId) (x : Operand) (ho : o.op = .load ty x)
 (g : Nat) (hx : a.eval x = .pointer (some ⟨g, 0, none⟩)) (t : TypeId) (cs : Array Value) (fr : Nat × Nat) (d : TypeDesc) (hg : w.heap[g]? = some (.cells cs t fr))
 (hu : P.underlying ty = some d) (hd : (match d with | .struct _ | .array _ _ => true | _ => false) = true) (hi : (P.info? ty).map (·.size) = some cs.size)
 (h : wpList P ops Q rest (a.put o.dst (.agg cs)) w) : wpList P ops Q (o :: rest) a w :=
 wpList_step fun K hK => by simp only [hgd, if_true]; exact wp_load_row ty x ho g hx t cs fr d hg hu hd hi (hK _ _ h)
theorem dy_ (B : IB) : (aa_ B)[(0 : Nat)]? = some (.string labS) := by unfold aa_; rfl
theorem d4_ (B : IB) : (aa_ B)[(1 : Nat)]? = some (.bool false) := by unfold aa_; rfl
theorem ds_ (B : IB) : (aa_ B)[(2 : Nat)]? = some (.int .i64 256) := by unfold aa_; rfl
theorem eb_ (B : IB) : (aa_ B)[(3 : Nat)]? = some (.int .i64 256) := by unfold aa_; rfl
theorem d5_ (B : IB) : (aa_ B)[(4 : Nat)]? = some (.int .i64 256) := by unfold aa_; rfl
theorem d6_ (B : IB) : (aa_ B)[(5 : Nat)]? = some (.string B.bytes) := by unfold aa_; rfl
theorem ec_ (B : IB) : (aa_ B)[(6 : Nat)]? = some (.string ⟨#[]⟩) := by unfold aa_; rfl
theorem ed_ (B : IB) : (aa_ B)[(7 : Nat)]? = some (.int .i64 0) := by unfold aa_; rfl
theorem ee_ (B : IB) : (aa_ B)[(8 : Nat)]? = some (.slice none 0 0) := by unfold aa_; rfl
theorem ef_ (B : IB) : (aa_ B)[(9 : Nat)]? = some (.slice none 0 0) := by unfold aa_; rfl
theorem db_ (B : IB) : (aa_ B)[(10 : Nat)]? = some (.slice none 0 0) := by unfold aa_; rfl
theorem dc_ (B : IB) : (aa_ B)[(11 : Nat)]? = some (.slice none 0 0) := by unfold aa_; rfl
theorem dd_ (B : IB) : (aa_ B)[(12 : Nat)]? = some (.slice none 0 0) := by unfold aa_; rfl
theorem de_ (B : IB) : (aa_ B)[(13 : Nat)]? = some (.slice none 0 0) := by unfold aa_; rfl
theorem df_ (B : IB) : (aa_ B)[(14 : Nat)]? = some (.slice none 0 0) := by unfold aa_; rfl
theorem dg_ (B : IB) : (aa_ B)[(15 : Nat)]? = some (.slice none 0 0) := by unfold aa_; rfl
theorem c1_ (B : IB) : (aa_ B)[(16 : Nat)]? = some (.int .i64 0) := by unfold aa_; rfl
theorem c2_ (B : IB) : (aa_ B)[(17 : Nat)]? = some (.slice none 0 0) := by unfold aa_; rfl
theorem c3_ (B : IB) : (aa_ B)[(18 : Nat)]? = some (.slice none 0 0) := by unfold aa_; rfl
theorem dh_ (B : IB) : (aa_ B)[(19 : Nat)]? = some (.slice none 0 0) := by unfold aa_; rfl
theorem di_ (B : IB) : (aa_ B)[(20 : Nat)]? = some (.slice none 0 0) := by unfold aa_; rfl
theorem c4_ (B : IB) : (aa_ B)[(21 : Nat)]? = some (.slice none 0 0) := by unfold aa_; rfl
theorem dj_ (B : IB) : (aa_ B)[(22 : Nat)]? = some (.slice none 0 0) := by unfold aa_; rfl
theorem dk_ (B : IB) : (aa_ B)[(23 : Nat)]? = some (.slice none 0 0) := by unfold aa_; rfl
theorem dl_ (B : IB) : (aa_ B)[(24 : Nat)]? = some (.slice (some ⟨B.gd, 0, none⟩) 1 1) := by unfold aa_; rfl
theorem dm_ (B : IB) : (aa_ B)[(25 : Nat)]? = some (.slice none 0 0) := by unfold aa_; rfl
theorem au_ (B : IB) : (Tryz.prog.info? 52).map (·.size) = some (aa_ B).size := by unfold aa_; kernel_rfl
attribute [local irreducible] aa_
attribute [local go_sem] dy_ d4_ ds_ eb_ d5_ d6_ ec_ ed_ ee_ ef_ db_ dc_ dd_ de_ df_ dg_ c1_ c2_ c3_ dh_ di_ c4_ dj_ dk_ dl_ dm_
theorem istarts (B : IB) (w : World) : Calls Tryz.prog 61 #[.agg (aa_ B)] w fun e w' => e = .returned (.bool true) ∧ Below w.heap.size w w' := by
 have hg := heap_alloc_new w (.cells (aa_ B) 52)
 have c14 := al_ (v := .slice none 0 0) hg 14 (by unfold aa_; rfl)
 have c15 := al_ (v := .slice none 0 0) hg 15 (by unfold aa_; rfl)
 have c16 := al_ (v := .int .i64 0) hg 16 (by unfold aa_; rfl)
 have c1 := al_ (v := .bool false) hg 1 (by unfold aa_; rfl)
 have HG := h1_ hg
 clear hg
 go_enter Tryz.func61, Tryz.ntmps61
 go_wp2_with (first
  | (go_at_call 103; refine (ex_ _ _).mono ?_; rintro e wz ⟨rfl, rfl⟩)
  | (refine bp_ (by rfl) 52 (.tmp 1) rfl w.heap.size rfl 52 (aa_ B) (0, 0) _ HG.out Tryz.underlying52 rfl (au_ B) ?_)
  | (go_at_call 112; refine (mi_ B _).mono ?_; rintro e w1 ⟨rfl, hb1⟩; have d1 := (hb1.cell (p := ⟨w.heap.size, 1, none⟩) (show w.heap.size < (w.alloc (.cells (aa_ B) 52)).heap.size by simp)).trans c1; have H1 := h1_ hb1; clear hb1))
 go_ret
 exact ⟨by simp, aw_ (by go_grown) H1.out⟩
theorem ineeds (B : IB) (w : World) : Calls Tryz.prog 62 #[.agg (aa_ B)] w fun e w' => e = .returned (.bool true) ∧ Below w.heap.size w w' := by
 have hg := heap_alloc_new w (.cells (aa_ B) 52)
 have c0 := al_ (v := .string labS) hg 0 (by unfold aa_; rfl)
 have c17 := al_ (v := .slice none 0 0) hg 17 (by unfold aa_; rfl)
 have c18 := al_ (v := .slice none 0 0) hg 18 (by unfold aa_; rfl)
 clear hg
 go_enter Tryz.func62, Tryz.ntmps62
 go_wp2_with (first
  | (go_at_call 124; refine (cd_ _ _).mono ?_; rintro e wz ⟨rfl, rfl⟩)
  | (go_at_call 123; refine (tl_ _).mono ?_; rintro e w1 ⟨rfl, hb1⟩; have H1 := h1_ hb1; clear hb1))
 have hM : ((w.alloc (.cells (aa_ B) 52)).alloc (.map #[] 0)).heap[w.heap.size + 1]? = some (.map #[] 0) := heap_alloc2_new _ _ _
 have hu := g7_ (P := Tryz.prog) (key := .string labS) (val := .bool true) Tryz.underlying119 hM Tryz.underlying9 trivial rfl
 obtain ⟨W, hW⟩ : ∃ W, W = setBlock ((w.alloc (.cells (aa_ B) 52)).alloc (.map #[] 0)) (w.heap.size + 1) (.map ((#[] : Array MapEntry).push ⟨.string labS, .bool true, 0⟩) (0 + 1)) := ⟨_, rfl⟩
 rw [← hW] at hu
 rw [hu]
 have hg : W.heap[w.heap.size]? = some (.cells (aa_ B) 52 (0, 0)) := by rw [hW, bv_ _ _ (by omega)]; exact ae_ (heap_alloc_new _ _)
 have hb : Below w.heap.size w W := by
  rw [hW]
  refine ⟨rfl, rfl, rfl, by simp [setBlock]; omega, fun k hk => ?_⟩
  rw [bv_ _ _ (by omega)]
  exact (((Below.refl _ _).alloc (Nat.le_refl _) _).alloc (by simp) _).block k hk
 have d17 := al_ (v := .slice none 0 0) hg 17 (c2_ B)
 have d18 := al_ (v := .slice none 0 0) hg 18 (c3_ B)
 have lg := lt_of_block hg
 have HB := h1_ hb
 clear hM hu hW hg hb c0 c17 c18
 go_wp2_with (first
  | (go_at_call 124; refine (cd_ _ _).mono ?_; rintro e wz ⟨rfl, rfl⟩)
  | (go_at_call 123; refine (tl_ _).mono ?_; rintro e w1 ⟨rfl, hb1⟩; have hz1 := eo_ hb1; have x17 := (hb1.cell (p := ⟨w.heap.size, 17, none⟩) (by simp; omega)).trans ((World.cell?_alloc_past _ _ _ lg).trans d17); have H1 := h1_ (aw_ ((Below.refl _ _).alloc (Nat.le_refl _) _) hb1); clear hb1))
 go_ret
 exact ⟨rfl, HB.out.trans (H1.out.mono HB.out.size)⟩
theorem ox_ (B : IB) (fn : Fn) (x c : Array Value) (w : World) : Calls Tryz.prog 133 #[.agg (aa_ B), .slice none 0 0, .func fn x c] w fun e w' => e = .returned (.bool true) ∧ Below w.heap.size w w' := by
 go_enter Tryz.func133, Tryz.ntmps133
 go_wp2_with (go_at_call 135; refine (ce_ _ _).mono ?_; rintro e wz ⟨rfl, rfl⟩)
 go_ret
 exact ⟨rfl, by go_grown⟩
theorem wt_ (B : IB) (fn : Fn) (x c : Array Value) (w : World) : Calls Tryz.prog 137 #[.agg (aa_ B), .slice none 0 0, .func fn x c] w fun e w' => e = .returned (.bool true) ∧ Below w.heap.size w w' := by
 go_enter Tryz.func137, Tryz.ntmps137
 go_wp2_with (go_at_call 139; refine (ep_ _ _).mono ?_; rintro e wz ⟨rfl, rfl⟩)
 go_ret
 exact ⟨rfl, by go_grown⟩
def a5_ (w : World) (g : Nat) : Prop := w.heap[g]? = some (.cells [.int .i64 0, .int .i64 0, .int .i64 80, .int .i64 0].toArray 110 (0, 0))
theorem a5_.below {w w' : World} {g : Nat} (h : a5_ w g) (hb : Below w.heap.size w w') : a5_ w' g := at_b hb h
theorem hz_ (w : World) (n : Nat) : Below w.heap.size w (w.drewN n) := ⟨rfl, rfl, rfl, Nat.le_refl _, fun _ _ => rfl⟩
theorem info8 (w : World) : Calls Tryz.prog 142 #[.agg #[.int .i64 0, .int .i64 0, .int .i64 80, .int .i64 0]] w fun e w' => e = .returned (.tuple #[.int .i64 0, .int .i64 0, .int .i64 80]) ∧ Below w.heap.size w w' := by
 go_enter Tryz.func142, Tryz.ntmps142
 go_wp2
 go_quiet (fail)
 go_wp2
 go_ret3
 exact ⟨rfl, ((Below.refl _ _).alloc (Nat.le_refl _) _).trans ((hz_ _ _).mono (by simp))⟩
theorem info9 (v : Value) (w : World) : Calls Tryz.prog 144 #[v, .agg #[.int .i64 0, .int .i64 0, .int .i64 80, .int .i64 0]] w fun e w' => e = .returned (.bool true) ∧ Below w.heap.size w w' := by
 go_enter Tryz.func144, Tryz.ntmps144
 go_wp2
 go_ret
 exact ⟨rfl, by go_grown⟩
theorem rows1 (B : IB) (v : Value) (q1 q2 q3 : Nat) (w : World) (h1 : w.heap[q1]? = some (.cells #[.func (.func 142) #[] #[]] 275 (0, 0))) (h2 : w.heap[q2]? = some (.cells #[.int .i64 0] 3 (0, 0))) (h3 : w.heap[q3]? = some (.cells (aa_ B) 52 (0, 0))) :
 Calls Tryz.prog 219 #[v, .agg #[.int .i64 0, .int .i64 0, .int .i64 80, .int .i64 0], .pointer (some ⟨q1, 0, none⟩), .pointer (some ⟨q2, 0, none⟩), .pointer (some ⟨q3, 0, none⟩)] w fun e w' => e = .returned (.bool true) ∧ Only (· = q2) w w' := by
 have c1 := ab_ h1 0 rfl
 have c2 := ab_ h2 0 rfl
 have f2 := ag_ h2 0
 have c3 := al_ h3 2 (ds_ B)
 have l1 := lt_of_block h1
 have l2 := lt_of_block h2
 have l3 := lt_of_block h3
 have HH := h1_ h2
 clear h1 h2 h3
 go_enter Tryz.func219, Tryz.ntmps219
 go_wp2_with fail
 go_at_call 142
 refine (info8 _).mono ?_
 rintro e w1 ⟨rfl, hb1⟩
 have hb : Below w.heap.size w w1 := ((Below.refl w.heap.size w).alloc (Nat.le_refl _) _).trans (hb1.mono (by simp))
 have kb2 := (hb.block _ l2).trans HH.out
 have k2 := ab_ kb2 0 rfl
 have k3 := (hb.cell (p := ⟨q3, 2, none⟩) l3).trans c3
 have g2 := ag_ kb2 0
 have H1 := h1_ hb
 clear c1 c2 c3 f2 hb1 hb kb2
 go_wp2
 go_ret
 exact ⟨rfl, (Only.of_below H1.out).setCell _ _ (.inl rfl)⟩
theorem rk_ (g : Nat) (w : World) (h : a5_ w g) : Calls Tryz.prog 143 #[.slice (some ⟨g, 0, none⟩) 1 1, .func (.func 144) #[] #[]] w fun e w' => e = .returned (.bool true) ∧ Below w.heap.size w w' := by
 have c0 := ab_ h 0 rfl
 have c1 := ab_ h 1 rfl
 have c2 := ab_ h 2 rfl
 have c3 := ab_ h 3 rfl
 clear h
 go_enter Tryz.func143, Tryz.ntmps143
 go_wp2
 refine wp_loop_rounds 2 ?_
 rw [rounds_succ]
 go_wp2_with fail
 go_at_call 144
 refine (info9 _ _).mono ?_
 rintro e w1 ⟨rfl, hb1⟩
 have H1 := h1_ (((Below.refl w.heap.size w).alloc (Nat.le_refl _) _).trans (hb1.mono (by simp)))
 clear hb1
 go_wp2
 rw [rounds_succ]
 go_wp2
 go_ret
 exact ⟨rfl, H1.out⟩
theorem rl_ (B : IB) (g q1 q2 q3 : Nat) (w : World) (h : a5_ w g) (h1 : w.heap[q1]? = some (.cells #[.func (.func 142) #[] #[]] 275 (0, 0))) (h2 : w.heap[q2]? = some (.cells #[.int .i64 0] 3 (0, 0))) (h3 : w.heap[q3]? = some (.cells (aa_ B) 52 (0, 0))) :
 Calls Tryz.prog 143 #[.slice (some ⟨g, 0, none⟩) 1 1, .func (.func 219) #[] #[.pointer (some ⟨q1, 0, none⟩), .pointer (some ⟨q2, 0, none⟩), .pointer (some ⟨q3, 0, none⟩)]] w fun e w' => e = .returned (.bool true) ∧ Only (· = q2) w w' := by
 have c0 := ab_ h 0 rfl
 have c1 := ab_ h 1 rfl
 have c2 := ab_ h 2 rfl
 have c3 := ab_ h 3 rfl
 have HH := h3_ h1 h2 h3
 clear h h1 h2 h3
 go_enter Tryz.func143, Tryz.ntmps143
 go_wp2
 refine wp_loop_rounds 2 ?_
 rw [rounds_succ]
 go_wp2_with fail
 go_at_call 219
 refine (rows1 B _ q1 q2 q3 _ (ae_ HH.out.1) (ae_ HH.out.2.1) (ae_ HH.out.2.2)).mono ?_
 rintro e w1 ⟨rfl, ho1⟩
 have H1 := h1_ (((Only.refl (· = q2) w).alloc _).trans ho1)
 clear ho1
 go_wp2
 rw [rounds_succ]
 go_wp2
 go_ret
 exact ⟨rfl, H1.out⟩
theorem rm_ (B : IB) (w : World) (h : a5_ w B.gd) : Calls Tryz.prog 141 #[.agg (aa_ B), .slice (some ⟨B.gd, 0, none⟩) 1 1, .func (.func 142) #[] #[]] w fun e w' => e = .returned (.bool true) ∧ Below w.heap.size w w' := by
 have HD := h1_ h
 clear h
 go_enter Tryz.func141, Tryz.ntmps141
 go_wp2_with fail
 go_at_call 143
 refine (rl_ B B.gd (w.heap.size + 1) (w.heap.size + 2) w.heap.size _ (HD.out.below (((((Below.refl _ _).alloc (Nat.le_refl _) _).alloc (by simp) _)).alloc (by simp; omega) _)) ?_ ?_ ?_).mono ?_
 · exact ae_ (heap_alloc2_new _ _ _)
 · have := heap_alloc_new ((w.alloc (.cells (aa_ B) 52)).alloc (.cells #[.func (.func 142) #[] #[]] 275)) (.cells #[.int .i64 0] 3)
   simpa using this
 · exact ae_ (ae_ (heap_alloc_new _ _))
 rintro e w1 ⟨rfl, ho1⟩
 have hb : Below w.heap.size w w1 := (((((Below.refl w.heap.size w).alloc (Nat.le_refl _) _).alloc (by simp) _)).alloc (by simp; omega) _).trans (ho1.below (by simp; omega) (fun k hk => by omega))
 have H1 := h1_ hb
 clear hb ho1
 go_wp2
 go_ret
 exact ⟨rfl, H1.out⟩
end Two
namespace Two
open Go.RowKit Go.ChangeMaps
attribute [local go_sem] ak_ af_ aq_ be_ bf_ bg_ a6_ a7_ a8_ cb_ run_makeMap
attribute [local irreducible] aa_
attribute [local go_sem] dy_ d4_ ds_ eb_ d5_ d6_ ec_ ed_ ee_ ef_ db_ dc_ dd_ de_ df_ dg_ c1_ c2_ c3_ dh_ di_ c4_ dj_ dk_ dl_ dm_
theorem iinfo (B : IB) (w : World) (hD : a5_ w B.gd) : Calls Tryz.prog 63 #[.agg (aa_ B)] w fun e w' => e = .returned (.bool true) ∧ Below w.heap.size w w' := by
 have HD := h1_ hD
 clear hD
 go_enter Tryz.func63, Tryz.ntmps63
 go_upto_region 6 with (first
  | (go_at_call 126; refine (d2_ _ _).mono ?_; rintro e wz ⟨rfl, rfl⟩)
  | (go_at_call 129; refine (d3_ _ _).mono ?_; rintro e wz ⟨rfl, rfl⟩)
  | (go_at_call 131; refine (c0_ _ _).mono ?_; rintro e wz ⟨rfl, rfl⟩))
 refine ac_ fun W hW => ?_
 have hl : W.heap[w.heap.size]? = some (.cells (aa_ B) 52 (0, 0)) := by rw [← hW]; exact ae_ (ae_ (heap_alloc_new _ _))
 have hf : W.heap[w.heap.size + 1]? = some (.cells [.slice none 0 0, .slice none 0 0, .slice none 0 0, .slice none 0 0, .slice none 0 0, .slice (some ⟨B.gd, 0, none⟩) 1 1].toArray 49 (0, 0)) := by rw [← hW]; exact ae_ (heap_alloc2_new _ _ _)
 have hB : Below w.heap.size w W := by rw [← hW]; go_grown
 clear hW
 have c3 := ab_ hf 3 rfl
 have HL := h1_ hl
 have HF := h2_ hf hB
 clear hl hf hB
 go_upto_region 7 with (first
  | (refine wpList_load_row rfl 52 (.tmp 1) rfl w.heap.size rfl 52 (aa_ B) (0, 0) _ HL.out Tryz.underlying52 rfl (au_ B) ?_)
  | (go_at_call 133; refine (ox_ B _ _ _ _).mono ?_; rintro e W1 ⟨rfl, hb1⟩; have hl1 := at_b hb1 HL.out; have hf1 := at_b hb1 HF.out.1; have c3 := ab_ hf1 3 rfl; have c4 := ab_ hf1 4 rfl; have c5 := ab_ hf1 5 rfl; have HL1 := h1_ hl1; have HF1 := h2_ hf1 (HF.out.2.trans (hb1.mono HF.out.2.size)); clear hb1 hl1 hf1)
  | (go_at_call 135; refine (ce_ _ _).mono ?_; rintro e wz ⟨rfl, rfl⟩))
 go_upto_region 8 with (first
  | (refine wpList_load_row rfl 52 (.tmp 1) rfl w.heap.size rfl 52 (aa_ B) (0, 0) _ HL1.out Tryz.underlying52 rfl (au_ B) ?_)
  | (go_at_call 137; refine (wt_ B _ _ _ _).mono ?_; rintro e W2 ⟨rfl, hb2⟩; have hl2 := at_b hb2 HL1.out; have hf2 := at_b hb2 HF1.out.1; have c3 := ab_ hf2 3 rfl; have c4 := ab_ hf2 4 rfl; have c5 := ab_ hf2 5 rfl; have HL2 := h1_ hl2; have HF2 := h2_ hf2 (HF1.out.2.trans (hb2.mono HF1.out.2.size)); clear hb2 hl2 hf2)
  | (go_at_call 139; refine (ep_ _ _).mono ?_; rintro e wz ⟨rfl, rfl⟩))
 go_wp2_with (first
  | (refine wpList_load_row rfl 52 (.tmp 1) rfl w.heap.size rfl 52 (aa_ B) (0, 0) _ HL2.out Tryz.underlying52 rfl (au_ B) ?_)
  | (go_at_call 141; refine (rm_ B _ (HD.out.below HF2.out.2)).mono ?_; rintro e W3 ⟨rfl, hb3⟩; have hl3 := at_b hb3 HL2.out; have hf3 := at_b hb3 HF2.out.1; have c3 := ab_ hf3 3 rfl; have c4 := ab_ hf3 4 rfl; have c5 := ab_ hf3 5 rfl; have HL3 := h1_ hl3; have HF3 := h2_ hf3 (HF2.out.2.trans (hb3.mono HF2.out.2.size)); clear hb3 hl3 hf3)
  | (go_at_call 143; refine (rk_ B.gd _ (HD.out.below HF3.out.2)).mono ?_; rintro e wz ⟨rfl, hb4⟩; have HF4 := h1_ (HF3.out.2.trans (hb4.mono HF3.out.2.size)); clear hb4))
 go_ret
 exact ⟨rfl, HF4.out⟩
end Two
namespace Two
open Go.RowKit Go.ChangeMaps
attribute [local go_sem] ak_ af_ aq_ be_ bf_ bg_ a6_ a7_ a8_ cb_ run_makeMap
attribute [local irreducible] aa_
attribute [local go_sem] dy_ d4_ ds_ eb_ d5_ d6_ ec_ ed_ ee_ ef_ db_ dc_ dd_ de_ df_ dg_ c1_ c2_ c3_ dh_ di_ c4_ dj_ dk_ dl_ dm_
theorem fl_ (w : World) : Calls Tryz.prog 207 #[.slice none 0 0] w fun e w' => e = .returned (.slice none 0 0) ∧ w' = w := by
 have hen := fun (w : World) (a : Option Addr) (l c : Nat) => _root_.Go.run_eql_slice_nil (P := Tryz.prog) w 44 67 a l c Tryz.underlying44
 go_enter Tryz.func207, Tryz.ntmps207
 go_wp2
 go_ret
 exact ⟨rfl, rfl⟩
theorem e5_ (f : Value) (w : World) : Calls Tryz.prog 206 #[.slice none 0 0, f] w fun e w' => e = .returned (.slice none 0 0) ∧ w = w' := by
 go_enter Tryz.func206, Tryz.ntmps206
 (go_wp2; repeat (any_goals (first | (refine wp_loop_rounds 2 ?_; rw [rounds_succ]; go_wp2) | (rw [rounds_succ]; go_wp2))))
 go_ret
 exact ⟨rfl, rfl⟩
theorem ge_ (f : Value) (k : Nat) (w : World) : Calls Tryz.prog 336 #[.slice none 0 0, .int .i64 0, .int .i64 0, .int .i64 k, f] w fun e w' => e = .returned (.tuple #[]) ∧ w = w' := by
 go_enter Tryz.func336, Tryz.ntmps336
 (go_wp2; repeat (any_goals (first | (refine wp_loop_rounds 2 ?_; rw [rounds_succ]; go_wp2) | (rw [rounds_succ]; go_wp2))))
 go_returns
 exact ⟨rfl, rfl⟩
theorem fw_ (f : Value) (w : World) : Calls Tryz.prog 209 #[.slice none 0 0, f] w fun e w' => e = .returned (.tuple #[]) ∧ w = w' := by
 go_enter Tryz.func209, Tryz.ntmps209
 (go_wp2_with (first | (go_at_call 337; refine (Tryz.bits_Len _ _ (by omega) (by omega)).mono ?_; rintro e w1 ⟨rfl, rfl⟩) | (go_at_call 336; refine (ge_ _ _ _).mono ?_; rintro e w1 ⟨rfl, rfl⟩)); repeat (any_goals (first | (refine wp_loop_rounds 2 ?_; rw [rounds_succ]; go_wp2_with (first | (go_at_call 337; refine (Tryz.bits_Len _ _ (by omega) (by omega)).mono ?_; rintro e w1 ⟨rfl, rfl⟩) | (go_at_call 336; refine (ge_ _ _ _).mono ?_; rintro e w1 ⟨rfl, rfl⟩))) | (rw [rounds_succ]; go_wp2_with (first | (go_at_call 337; refine (Tryz.bits_Len _ _ (by omega) (by omega)).mono ?_; rintro e w1 ⟨rfl, rfl⟩) | (go_at_call 336; refine (ge_ _ _ _).mono ?_; rintro e w1 ⟨rfl, rfl⟩))))))
 go_end0
 exact ⟨rfl, rfl⟩
theorem kz_ (w : World) : Calls Tryz.prog 113 #[.slice none 0 0] w fun e w' => e = .returned (.bool true) ∧ Below w.heap.size w w' := by
 go_enter Tryz.func113, Tryz.ntmps113
 (go_wp2_with (first | (go_at_call 207; refine (fl_ _).mono ?_; rintro e w1 ⟨rfl, rfl⟩) | (go_at_call 206; refine (e5_ _ _).mono ?_; rintro e w1 ⟨rfl, rfl⟩) | (go_at_call 209; refine (fw_ _ _).mono ?_; rintro e w1 ⟨rfl, rfl⟩) | (go_at_call 131; refine (c0_ _ _).mono ?_; rintro e w1 ⟨rfl, rfl⟩)); repeat (any_goals (first | (refine wp_loop_rounds 2 ?_; rw [rounds_succ]; go_wp2_with (first | (go_at_call 207; refine (fl_ _).mono ?_; rintro e w1 ⟨rfl, rfl⟩) | (go_at_call 206; refine (e5_ _ _).mono ?_; rintro e w1 ⟨rfl, rfl⟩) | (go_at_call 209; refine (fw_ _ _).mono ?_; rintro e w1 ⟨rfl, rfl⟩) | (go_at_call 131; refine (c0_ _ _).mono ?_; rintro e w1 ⟨rfl, rfl⟩))) | (rw [rounds_succ]; go_wp2_with (first | (go_at_call 207; refine (fl_ _).mono ?_; rintro e w1 ⟨rfl, rfl⟩) | (go_at_call 206; refine (e5_ _ _).mono ?_; rintro e w1 ⟨rfl, rfl⟩) | (go_at_call 209; refine (fw_ _ _).mono ?_; rintro e w1 ⟨rfl, rfl⟩) | (go_at_call 131; refine (c0_ _ _).mono ?_; rintro e w1 ⟨rfl, rfl⟩))))))
 go_ret
 exact ⟨rfl, by go_grown⟩
theorem inodes (B : IB) (w : World) : Calls Tryz.prog 57 #[.agg (aa_ B)] w fun e w' => e = .returned (.bool true) ∧ Below w.heap.size w w' := by
 go_enter Tryz.func57, Tryz.ntmps57
 (go_wp2_with (first | (go_at_call 108; refine (b4_ _ _).mono ?_; rintro e w1 ⟨rfl, rfl⟩) | (go_at_call 113; refine (kz_ wA).mono ?_; rintro e wB ⟨rfl, hb2⟩; have HB := h1_ (HA.out.trans (hb2.mono HA.out.size)); clear hb2) | (go_at_call 113; refine (kz_ _).mono ?_; rintro e wA ⟨rfl, hb1⟩; have HA := h1_ (show Below w.heap.size w wA from aw_ (by go_grown) hb1); clear hb1)); repeat (any_goals (first | (refine wp_loop_rounds 2 ?_; rw [rounds_succ]; go_wp2_with (first | (go_at_call 108; refine (b4_ _ _).mono ?_; rintro e w1 ⟨rfl, rfl⟩) | (go_at_call 113; refine (kz_ wA).mono ?_; rintro e wB ⟨rfl, hb2⟩; have HB := h1_ (HA.out.trans (hb2.mono HA.out.size)); clear hb2) | (go_at_call 113; refine (kz_ _).mono ?_; rintro e wA ⟨rfl, hb1⟩; have HA := h1_ (show Below w.heap.size w wA from aw_ (by go_grown) hb1); clear hb1))) | (rw [rounds_succ]; go_wp2_with (first | (go_at_call 108; refine (b4_ _ _).mono ?_; rintro e w1 ⟨rfl, rfl⟩) | (go_at_call 113; refine (kz_ wA).mono ?_; rintro e wB ⟨rfl, hb2⟩; have HB := h1_ (HA.out.trans (hb2.mono HA.out.size)); clear hb2) | (go_at_call 113; refine (kz_ _).mono ?_; rintro e wA ⟨rfl, hb1⟩; have HA := h1_ (show Below w.heap.size w wA from aw_ (by go_grown) hb1); clear hb1))))))
 go_ret
 exact ⟨rfl, HB.out⟩
theorem tq_ (B : IB) (hB : B.bytes.size = 256) (w : World) (hD : a5_ w B.gd) : Calls Tryz.prog 33 #[.agg (aa_ B)] w fun e w' => e = .returned (.bool true) ∧ Below w.heap.size w w' := by
 have HS := h1_ hB
 have HD := h1_ hD
 have HL0 := h1_ (heap_alloc_new w (.cells (aa_ B) 52))
 have HB0 := h1_ ((Below.refl w.heap.size w).alloc (Nat.le_refl _) (.cells (aa_ B) 52))
 clear hB hD
 go_enter Tryz.func33, Tryz.ntmps33
 go_wp2_with (first
  | (refine wpList_load_row rfl 52 (.tmp 1) rfl w.heap.size rfl 52 (aa_ B) (0, 0) _ HL0.out Tryz.underlying52 rfl (au_ B) ?_)
  | (go_at_call 56; refine (isizes B HS.out _).mono ?_; rintro e w1 ⟨rfl, hb⟩; have HL1 := h1_ (at_b hb HL0.out); have HB1 := h1_ (HB0.out.trans (hb.mono HB0.out.size)); clear hb)
  | (refine bp_ (by rfl) 52 (.tmp 1) rfl w.heap.size rfl 52 (aa_ B) (0, 0) _ HL1.out Tryz.underlying52 rfl (au_ B) ?_)
  | (go_at_call 57; refine (inodes B _).mono ?_; rintro e w2 ⟨rfl, hb⟩; have HL2 := h1_ (at_b hb HL1.out); have HB2 := h1_ (HB1.out.trans (hb.mono HB1.out.size)); clear hb)
  | (refine bp_ (by rfl) 52 (.tmp 1) rfl w.heap.size rfl 52 (aa_ B) (0, 0) _ HL2.out Tryz.underlying52 rfl (au_ B) ?_)
  | (go_at_call 58; refine (wo_ B _).mono ?_; rintro e w3 ⟨rfl, hb⟩; have HL3 := h1_ (at_b hb HL2.out); have HB3 := h1_ (HB2.out.trans (hb.mono HB2.out.size)); clear hb)
  | (refine bp_ (by rfl) 52 (.tmp 1) rfl w.heap.size rfl 52 (aa_ B) (0, 0) _ HL3.out Tryz.underlying52 rfl (au_ B) ?_)
  | (go_at_call 59; refine (wp_ B _).mono ?_; rintro e w4 ⟨rfl, hb⟩; have HL4 := h1_ (at_b hb HL3.out); have HB4 := h1_ (HB3.out.trans (hb.mono HB3.out.size)); clear hb)
  | (refine bp_ (by rfl) 52 (.tmp 1) rfl w.heap.size rfl 52 (aa_ B) (0, 0) _ HL4.out Tryz.underlying52 rfl (au_ B) ?_)
  | (go_at_call 60; refine (idyns B _).mono ?_; rintro e w5 ⟨rfl, hb⟩; have HL5 := h1_ (at_b hb HL4.out); have HB5 := h1_ (HB4.out.trans (hb.mono HB4.out.size)); clear hb)
  | (refine bp_ (by rfl) 52 (.tmp 1) rfl w.heap.size rfl 52 (aa_ B) (0, 0) _ HL5.out Tryz.underlying52 rfl (au_ B) ?_)
  | (go_at_call 61; refine (istarts B _).mono ?_; rintro e w6 ⟨rfl, hb⟩; have HL6 := h1_ (at_b hb HL5.out); have HB6 := h1_ (HB5.out.trans (hb.mono HB5.out.size)); clear hb)
  | (refine bp_ (by rfl) 52 (.tmp 1) rfl w.heap.size rfl 52 (aa_ B) (0, 0) _ HL6.out Tryz.underlying52 rfl (au_ B) ?_)
  | (go_at_call 62; refine (ineeds B _).mono ?_; rintro e w7 ⟨rfl, hb⟩; have HL7 := h1_ (at_b hb HL6.out); have HB7 := h1_ (HB6.out.trans (hb.mono HB6.out.size)); clear hb)
  | (refine bp_ (by rfl) 52 (.tmp 1) rfl w.heap.size rfl 52 (aa_ B) (0, 0) _ HL7.out Tryz.underlying52 rfl (au_ B) ?_)
  | (go_at_call 63; refine (iinfo B _ (HD.out.below HB7.out)).mono ?_; rintro e w8 ⟨rfl, hb⟩; have HL8 := h1_ (at_b hb HL7.out); have HB8 := h1_ (HB7.out.trans (hb.mono HB7.out.size)); clear hb)
  | (refine bp_ (by rfl) 52 (.tmp 1) rfl w.heap.size rfl 52 (aa_ B) (0, 0) _ HL8.out Tryz.underlying52 rfl (au_ B) ?_)
  | (go_at_call 64; refine (ws_ B _).mono ?_; rintro e w9 ⟨rfl, hb⟩; have HL9 := h1_ (at_b hb HL8.out); have HB9 := h1_ (HB8.out.trans (hb.mono HB8.out.size)); clear hb))
 go_ret
 exact ⟨rfl, HB9.out⟩
end Two
namespace Two
open Go.RowKit Go.ChangeMaps
attribute [local go_sem] ak_ af_ aq_ be_ bf_ bg_ a6_ a7_ a8_ cb_ run_makeMap
attribute [local irreducible] aa_
attribute [local go_sem] dy_ d4_ ds_ eb_ d5_ d6_ ec_ ed_ ee_ ef_ db_ dc_ dd_ de_ df_ dg_ c1_ c2_ c3_ dh_ di_ c4_ dj_ dk_ dl_ dm_
def cv_ (s mo th at_ : Nat) : List Value := [.pointer (some ⟨s, 0, none⟩), .map (some mo), .map (some th), .map (some at_)]
theorem eq_ (B : IB) : (aa_ B).all (·.oneCell') = true := by unfold aa_; simp [Value.oneCell']
theorem tnew (s : Nat) (w : World) : Calls Tryz.prog 32 #[.pointer (some ⟨s, 0, none⟩)] w fun e w' =>
 e = .returned (.pointer (some ⟨w.heap.size + 3, 0, none⟩)) ∧ w' = (((w.alloc (.map #[] 0)).alloc (.map #[] 0)).alloc (.map #[] 0)).alloc (.cells (cv_ s w.heap.size (w.heap.size + 1) (w.heap.size + 2)).toArray 164) := by
 unfold cv_
 go_enter Tryz.func32, Tryz.ntmps32
 go_wp2
 go_ret
 exact ⟨rfl, rfl⟩
def tr_ : Value := .agg #[.string ⟨#[]⟩, .bool false, .int .i64 0, .int .i64 0, .int .i64 0, .string ⟨#[]⟩, .string ⟨#[]⟩, .int .i64 0, .slice none 0 0, .slice none 0 0, .slice none 0 0, .slice none 0 0, .slice none 0 0, .slice none 0 0, .slice none 0 0, .slice none 0 0,
 .int .i64 0, .slice none 0 0, .slice none 0 0, .slice none 0 0, .slice none 0 0, .slice none 0 0, .slice none 0 0, .slice none 0 0, .slice none 0 0, .slice none 0 0]
theorem wu_ (w : World) : (zeroValue 52).run Tryz.prog w = .ok tr_ w := by kernel_rfl
theorem tmake (b s mo th at_ t : Nat) (B : IB) (w : World) (hb : w.heap[b]? = some (.cells (cv_ s mo th at_).toArray 164 (0, 0))) (hm : w.heap[mo]? = some (.map #[⟨.int .i64 0, .agg (aa_ B), 0⟩] 1)) :
 Calls Tryz.prog 164 #[.pointer (some ⟨b, 0, none⟩), .int .i64 t, .int .i64 0] w fun e w' => e = .returned (.bool true) ∧ Below w.heap.size w w' := by
 unfold cv_ at hb
 have c1 := ab_ hb 1 rfl
 have hl := tc_ (P := Tryz.prog) (key := .int .i64 0) false 0 Tryz.underlying160 hm Tryz.underlying3 rfl (v := .agg (aa_ B)) rfl
 simp only [Bool.false_eq_true, if_false] at hl
 clear hb hm
 go_enter Tryz.func164, Tryz.ntmps164
 go_wp2_with ((with_reducible refine ad_ ?_); refine sr_ rfl rfl (hi := au_ B) (hold := by unfold aa_; rfl) (h1 := eq_ B) (h := ?_); (try simp only [World.setRow_alloc_new]))
 go_ret
 exact ⟨rfl, by go_grown⟩
end Two
end Go.Proofs.YtacaejpamidkcaaGreatDoor
