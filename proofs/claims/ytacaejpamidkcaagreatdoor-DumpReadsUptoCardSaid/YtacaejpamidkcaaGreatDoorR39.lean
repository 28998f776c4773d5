/- proc: Step of the example's process. proc: proceed of the example's process. proc: Step of the example's process at the beginning: it proceeds. proc: Run, four steps of the example's process. -/
import Derived.Test.YtacaejpamidkcaaGreatDoorR38
set_option linter.unusedVariables false
set_option linter.unusedSimpArgs false
set_option maxRecDepth 100000
set_option maxHeartbeats 2000000
namespace Go.Proofs.YtacaejpamidkcaaGreatDoor
namespace Two
open Go.RowKit
attribute [local go_sem] ak_ af_
def thrG (r : Nat → Int) (pc : Int) (calls : Value) : List Value := cpuL r pc ++ [.int .i64 0, .int .i64 0, .int .i64 1024, .int .i64 1024, calls, .slice none 0 0]
theorem cpu_len (r : Nat → Int) (pc : Int) : (Tryz.prog.info? 70).map (·.size) = some (cpuL r pc).length := by kernel_rfl
theorem j4_ {r : Nat → Int} {pc : Int} {calls : Value} {j : Nat} {u : Value} (h : (cpuL r pc)[j]? = some u) : (thrG r pc calls)[j]? = some u := by
 unfold thrG
 rw [List.getElem?_append_left (List.getElem?_eq_some_iff.1 h).1]
 exact h
theorem hq_ {w : World} {base : Nat} {e : TypeId} {size g cap n : Nat} {xs vs : List Value} (h : w.ownsRow base e size (.slice (some ⟨g, 0, none⟩) n cap) n xs) (hv : vs.length ≤ n * size) : (w.setCells g 0 vs).ownsRow base e size (.slice (some ⟨g, 0, none⟩) n cap) n (vs ++ xs.drop vs.length) := by
 refine ⟨by have := h.1; simp; omega, ?_⟩
 rcases h.2 with ⟨h0, _⟩ | ⟨g', cap', cur, h1, h2, h3, h4, h5, h6, h7⟩
 · cases h0
 · simp only [Value.slice.injEq, Option.some.injEq, Addr.mk.injEq, and_true, true_and] at h1
   obtain ⟨rfl, rfl⟩ := h1
   have hm : n * size ≤ cap * size := Nat.mul_le_mul_right _ h4
   have h9 : cur.toList.length = cap * size := by rw [Array.length_toList]; exact h6
   have hle : vs.length ≤ cur.toList.length := by omega
   have hb := cw_ g e (0, 0) vs cur.toList 0 w (by omega) (by simpa using h3)
   refine .inr ⟨g, cap, _, rfl, h2, hb, h4, h5, ?_, ?_⟩
   · have h8 : cur.toList.length = cap * size := by rw [Array.length_toList]; exact h6
     rw [List.size_toArray, List.length_append, List.length_append, List.length_take, List.length_drop, Nat.zero_min]
     omega
   · simp only [List.take_zero, List.nil_append, Nat.zero_add]
     rw [← h7, List.take_append, List.take_of_length_le hv, List.drop_take]
theorem uz_ (r : Nat → Int) (pc : Int) (calls : Value) : (thrG r pc calls)[(17 : Nat)]? = some (.int .i64 0) := by unfold thrG cpuL; rfl
theorem nc_ (r : Nat → Int) (pc : Int) (calls : Value) : (thrG r pc calls).set 17 (.int .i64 0) = thrG r pc calls := by unfold thrG cpuL; rfl
theorem nd_ (r r' : Nat → Int) (pc pc' : Int) (calls : Value) : cpuL r' pc' ++ (thrG r pc calls).drop (cpuL r' pc').length = thrG r' pc' calls := by unfold thrG cpuL; rfl
attribute [local irreducible] cpuL thrG
theorem ne_ (p s b l gt ct : Nat) (r r' : Nat → Int) (pc pc' : Int) (calls : Value) (pv : Value) (ps ps' : List Part) (S : Nat → Prop) (w : World)
 (hp : w.heap[p]? = some (.cells (es_ s b l (.slice (some ⟨gt, 0, none⟩) 1 ct)).toArray 117 (0, 0)))
 (ht : w.ownsRow 0 133 23 (.slice (some ⟨gt, 0, none⟩) 1 ct) 1 (thrG r pc calls))
 (hsp : SpaceAt w s pv ps) (hnp : ¬ S p) (hng : ¬ S gt) (hnw : ∀ b, w.heap.size ≤ b → ¬ S b)
 (hm : ∀ w1, SpaceAt w1 s pv ps → Only (fun x => S x ∨ x = gt) w w1 → Calls Tryz.prog 74 #[.pointer (some ⟨s, 0, none⟩), .agg (cpuL r pc).toArray] w1 fun e w' => e = .returned (.tuple #[.agg (cpuL r' pc').toArray, .agg #[.int .i64 0, .int .i64 0]]) ∧ Only S w1 w' ∧ SpaceAt w' s pv ps')
 : Calls Tryz.prog 39 #[.pointer (some ⟨p, 0, none⟩), .int .i64 0] w fun e w' => e = .returned (.agg #[.int .i64 0, .int .i64 0]) ∧ Only (fun x => S x ∨ x = gt) w w' ∧ SpaceAt w' s pv ps' ∧ w'.ownsRow 0 133 23 (.slice (some ⟨gt, 0, none⟩) 1 ct) 1 (thrG r' pc' calls) := by
 have HN2 := h1_ hnw
 clear hnw
 have lp := lt_of_block hp
 have HP := h1_ hp
 obtain ⟨_, lgt, cur, hcur⟩ := ah_ ht
 have npg : p ≠ gt := am_ hp hcur (by decide)
 have HN := h3_ hnp hng npg
 have HT := h1_ ht
 have HS := h1_ hsp
 have HM := h1_ hm
 have HF := h1_ (show ∀ k, e1_ s pv ps k → ¬ k = gt by rintro k hk rfl; exact hsp.notCells hcur (by decide) (by decide) (by decide) hk)
 unfold es_ at hp
 have c0 := ab_ hp 0 rfl; have c3 := ab_ hp 3 rfl; have c7 := ab_ hp 7 rfl
 obtain ⟨d17, f17⟩ := row_cell ht 17 (uz_ r pc calls)
 clear hp ht hsp hm hcur hnp hng
 go_enter Tryz.func39, Tryz.ntmps39
 go_upto_region 5 with fail
 refine ac_ fun V hV => ?_
 have vo : Only (· = gt) w V := by rw [← hV]; exact ((Only.refl (· = gt) _).setCell ⟨gt, 17, none⟩ _ (.inl rfl)).alloc _
 have vp := vo.kept HP.out npg
 have vt : V.ownsRow 0 133 23 (.slice (some ⟨gt, 0, none⟩) 1 ct) 1 (thrG r pc calls) := by
  rw [← hV, ← nc_ r pc calls]
  exact ai_ (b7_ HT.out 17 (.int .i64 0)) ((Below.refl _ _).alloc (Nat.le_refl _) _)
 have vs := HS.out.kept vo HF.out
 have ve : V.heap[w.heap.size]? = some (.cells #[.int .i64 0, .int .i64 0] 136 (0, 0)) := by rw [← hV]; exact block_at (by simp)
 have HV := h4_ vo vp vt vs
 have HE := h1_ ve
 have lwV : w.heap.size < V.heap.size := lt_of_block ve
 clear hV vo vp vt vs ve c0 c3 c7 d17 f17
 refine wl_ 18 15 [12] (S) [.pt p 0, .pt p 0, .pt p 0, .pt s 0, .pt p 0, .pt p 0, .pt p 3, .val (.slice (some ⟨gt, 0, none⟩) 1 ct), .val (.int .i64 0), .pt gt 0, .pt gt 0, .val (.agg (cpuL r pc).toArray), .val (.tuple #[.agg (cpuL r' pc').toArray, .agg #[.int .i64 0, .int .i64 0]]), .val (.tuple #[.agg (cpuL r' pc').toArray, .agg #[.int .i64 0, .int .i64 0]]), .val (.agg (cpuL r' pc').toArray), .val (.agg #[.int .i64 0, .int .i64 0]), .more (fun v x => ∃ b, v = .pointer (some ⟨b, 0, none⟩) ∧ V.heap.size ≤ b ∧ ¬ S b ∧ x.heap[b]? = some (.cells #[.int .i64 0, .int .i64 0, .int .i64 0, .int .i64 0, .int .i64 0, .int .i64 0, .int .i64 0, .int .i64 0, .int .i64 0, .int .i64 0, .int .i64 0, .int .i64 0, .int .i64 0, .int .i64 0, .int .i64 0, .int .i64 0, .int .i64 0] 70 (0, 0))) (fun v x y ho h => by obtain ⟨b, h1, h2, h3, h4⟩ := h; exact ⟨b, h1, h2, h3, ho.kept h4 h3⟩), .more (fun v x => ∃ b, v = .pointer (some ⟨b, 0, none⟩) ∧ V.heap.size ≤ b ∧ ¬ S b ∧ x.heap[b]? = some (.cells #[.int .i64 0, .int .i64 0] 136 (0, 0))) (fun v x y ho h => by obtain ⟨b, h1, h2, h3, h4⟩ := h; exact ⟨b, h1, h2, h3, ho.kept h4 h3⟩)] (fun k x => SpaceAt x s pv (if k = 0 then ps else ps')) (.agg #[.int .i64 0, .int .i64 0]) (by kernel_rfl) (by kernel_rfl) (HV.out.2.2.2.below ((Below.refl _ _).drew)) ?_ rfl ?_
 · simp only [a4_, List.take]
   refine ⟨?_, ?_, ?_, ?_, ?_, ?_, ?_, ?_, ?_, ?_, ?_, ?_, ?_, ?_, ?_, ?_, ?_, ?_, trivial⟩
   all_goals intro k a wr ho hJ hk hr hf hd
   · have h0 : zp_ a 0 p 0 := (hf 0).trans rfl
     exact dp_ hJ (by simp [execOp, h0, go_sem])
   · have h66 : z_ a 66 _ := hd 0
     exact dp_ hJ (by simp [execOp, h66, go_sem])
   · have h67 : z_ a 67 _ := hd 1
     exact dp_ hJ (by simp [execOp, h67, go_sem])
   · have h68 : z_ a 68 _ := hd 2
     have hc := ab_ (ho.kept HV.out.2.1 HN.out.1) 0 rfl
     exact dp_ hJ (by simp [execOp, h68, hc, go_sem])
   · have h0 : zp_ a 0 p 0 := (hf 0).trans rfl
     exact dp_ hJ (by simp [execOp, h0, go_sem])
   · have h70 : z_ a 70 _ := hd 4
     exact dp_ hJ (by simp [execOp, h70, go_sem])
   · have h71 : z_ a 71 _ := hd 5
     exact dp_ hJ (by simp [execOp, h71, go_sem])
   · have h72 : z_ a 72 _ := hd 6
     have hc := ab_ (ho.kept HV.out.2.1 HN.out.1) 3 rfl
     exact dp_ hJ (by simp [execOp, h72, hc, go_sem])
   · have h1 : z_ a 1 (.int .i64 0) := (hf 1).trans rfl
     exact dp_ hJ (by simp [execOp, h1, go_sem])
   · have h73 : z_ a 73 _ := hd 7
     have h74 : z_ a 74 _ := hd 8
     exact dp_ hJ (by simp [execOp, h73, h74, go_sem])
   · have h75 : z_ a 75 _ := hd 9
     exact dp_ hJ (by simp [execOp, h75, go_sem])
   · have h76 : z_ a 76 _ := hd 10
     exact ei_ 76 70 rfl gt 0 h76 (cpuL r pc) _ (fun j u hj => (row_cell (ao_ HV.out.2.2.1 ho HN.out.2.1) (0 + j) (by rw [Nat.zero_add]; exact j4_ hj)).1) Tryz.underlying70 rfl (cpu_len _ _) ⟨rfl, Only.refl _ _, hJ⟩
   · have h69 : z_ a 69 _ := hd 3
     have h77 : z_ a 77 _ := hd 11
     obtain rfl := hk 0 (by decide) rfl
     exact a0_ (f := 74) (args := #[.pointer (some ⟨s, 0, none⟩), .agg (cpuL r pc).toArray]) (by simp [execOp, h69, h77, go_sem]) ((HM.out _ (by simpa using hJ) ((HV.out.1.mono (fun k _ h => .inr h)).trans (ho.mono (fun k _ h => .inl h)))).mono fun e w' ⟨he, hoo, hs'⟩ => ⟨_, he, rfl, hoo, hs'⟩)
   · have h78 : z_ a 78 _ := hd 12
     exact dp_ hJ (by simp [execOp, h78, go_sem])
   · have h65 : z_ a 65 _ := hd 13
     exact dp_ hJ (by simp [execOp, h65, go_sem])
   · have h65 : z_ a 65 _ := hd 13
     exact dp_ hJ (by simp [execOp, h65, go_sem])
   · exact bc_ (v := .pointer (some ⟨wr.heap.size, 0, none⟩)) (w' := wr.alloc (.cells #[.int .i64 0, .int .i64 0, .int .i64 0, .int .i64 0, .int .i64 0, .int .i64 0, .int .i64 0, .int .i64 0, .int .i64 0, .int .i64 0, .int .i64 0, .int .i64 0, .int .i64 0, .int .i64 0, .int .i64 0, .int .i64 0, .int .i64 0] 70)) (by simp [execOp, go_sem]) ⟨⟨_, rfl, ho.size, HN2.out _ (by have := ho.size; omega), heap_alloc_new _ _⟩, (Only.refl _ _).alloc _, hJ.below ((Below.refl _ _).alloc (Nat.le_refl _) _)⟩
   · exact bc_ (v := .pointer (some ⟨wr.heap.size, 0, none⟩)) (w' := wr.alloc (.cells #[.int .i64 0, .int .i64 0] 136)) (by simp [execOp, go_sem]) ⟨⟨_, rfl, ho.size, HN2.out _ (by have := ho.size; omega), heap_alloc_new _ _⟩, (Only.refl _ _).alloc _, hJ.below ((Below.refl _ _).alloc (Nat.le_refl _) _)⟩
 · intro a w2 ho2 hj hs hfr om oe hom hoe
   obtain rfl := Option.some.inj hom
   obtain rfl := Option.some.inj hoe
   have r66 : a.tmps.getD 66 undef = .pointer (some ⟨p, 0, none⟩) := hs 0 (by decide) (by decide)
   have r67 : a.tmps.getD 67 undef = .pointer (some ⟨p, 0, none⟩) := hs 1 (by decide) (by decide)
   have r68 : a.tmps.getD 68 undef = .pointer (some ⟨p, 0, none⟩) := hs 2 (by decide) (by decide)
   have r69 : a.tmps.getD 69 undef = .pointer (some ⟨s, 0, none⟩) := hs 3 (by decide) (by decide)
   have r70 : a.tmps.getD 70 undef = .pointer (some ⟨p, 0, none⟩) := hs 4 (by decide) (by decide)
   have r71 : a.tmps.getD 71 undef = .pointer (some ⟨p, 0, none⟩) := hs 5 (by decide) (by decide)
   have r72 : a.tmps.getD 72 undef = .pointer (some ⟨p, 3, none⟩) := hs 6 (by decide) (by decide)
   have r73 : a.tmps.getD 73 undef = .slice (some ⟨gt, 0, none⟩) 1 ct := hs 7 (by decide) (by decide)
   have r74 : a.tmps.getD 74 undef = .int .i64 0 := hs 8 (by decide) (by decide)
   have r75 : a.tmps.getD 75 undef = .pointer (some ⟨gt, 0, none⟩) := hs 9 (by decide) (by decide)
   have r76 : a.tmps.getD 76 undef = .pointer (some ⟨gt, 0, none⟩) := hs 10 (by decide) (by decide)
   have r77 : a.tmps.getD 77 undef = .agg (cpuL r pc).toArray := hs 11 (by decide) (by decide)
   have r78 : a.tmps.getD 78 undef = .tuple #[.agg (cpuL r' pc').toArray, .agg #[.int .i64 0, .int .i64 0]] := hs 12 (by decide) (by decide)
   have r65 : a.tmps.getD 65 undef = .tuple #[.agg (cpuL r' pc').toArray, .agg #[.int .i64 0, .int .i64 0]] := hs 13 (by decide) (by decide)
   have r79 : a.tmps.getD 79 undef = .agg (cpuL r' pc').toArray := hs 14 (by decide) (by decide)
   have q6 := hs 16 (by decide) (by decide)
   have q7 := hs 17 (by decide) (by decide)
   obtain ⟨b6, r6, l6, n6, k6⟩ : ∃ b, a.tmps.getD 6 undef = .pointer (some ⟨b, 0, none⟩) ∧ V.heap.size ≤ b ∧ ¬ S b ∧ w2.heap[b]? = some (.cells #[.int .i64 0, .int .i64 0, .int .i64 0, .int .i64 0, .int .i64 0, .int .i64 0, .int .i64 0, .int .i64 0, .int .i64 0, .int .i64 0, .int .i64 0, .int .i64 0, .int .i64 0, .int .i64 0, .int .i64 0, .int .i64 0, .int .i64 0] 70 (0, 0)) := q6
   obtain ⟨b7, r7, l7, n7, k7⟩ : ∃ b, a.tmps.getD 7 undef = .pointer (some ⟨b, 0, none⟩) ∧ V.heap.size ≤ b ∧ ¬ S b ∧ w2.heap[b]? = some (.cells #[.int .i64 0, .int .i64 0] 136 (0, 0)) := q7
   have n67 : b6 ≠ b7 := am_ k6 k7 (by decide)
   refine ⟨w2.setRow b6 (cpuL r' pc').toArray, fun K hK => ?_, ?_, ?_⟩
   · exact wp_store_row 70 (.tmp 6) (.tmp 79) rfl b6 (cpuL r' pc').toArray (by simpa [Act.eval, Array.getD_eq_getD_getElem?] using r6) (by simpa [Act.eval, Array.getD_eq_getD_getElem?] using r79) 70 _ k6 (dv_ _ _) (by unfold cpuL; rfl) (gs_ _ _) hK
   · have h65 : z_ a 65 (.tuple #[.agg (cpuL r' pc').toArray, .agg #[.int .i64 0, .int .i64 0]]) := by simpa [Array.getD_eq_getD_getElem?] using r65
     simp [execOp, h65, go_sem]
   · generalize hfd : (fun s : Tmp => if s = a1_ _ 15 then _ else a.tmps.getD s undef) = f
     have g66 : f 66 = .pointer (some ⟨p, 0, none⟩) := by rw [← hfd]; exact (if_neg (by decide +kernel)).trans r66
     have g67 : f 67 = .pointer (some ⟨p, 0, none⟩) := by rw [← hfd]; exact (if_neg (by decide +kernel)).trans r67
     have g68 : f 68 = .pointer (some ⟨p, 0, none⟩) := by rw [← hfd]; exact (if_neg (by decide +kernel)).trans r68
     have g69 : f 69 = .pointer (some ⟨s, 0, none⟩) := by rw [← hfd]; exact (if_neg (by decide +kernel)).trans r69
     have g70 : f 70 = .pointer (some ⟨p, 0, none⟩) := by rw [← hfd]; exact (if_neg (by decide +kernel)).trans r70
     have g71 : f 71 = .pointer (some ⟨p, 0, none⟩) := by rw [← hfd]; exact (if_neg (by decide +kernel)).trans r71
     have g72 : f 72 = .pointer (some ⟨p, 3, none⟩) := by rw [← hfd]; exact (if_neg (by decide +kernel)).trans r72
     have g73 : f 73 = .slice (some ⟨gt, 0, none⟩) 1 ct := by rw [← hfd]; exact (if_neg (by decide +kernel)).trans r73
     have g74 : f 74 = .int .i64 0 := by rw [← hfd]; exact (if_neg (by decide +kernel)).trans r74
     have g75 : f 75 = .pointer (some ⟨gt, 0, none⟩) := by rw [← hfd]; exact (if_neg (by decide +kernel)).trans r75
     have g76 : f 76 = .pointer (some ⟨gt, 0, none⟩) := by rw [← hfd]; exact (if_neg (by decide +kernel)).trans r76
     have g77 : f 77 = .agg (cpuL r pc).toArray := by rw [← hfd]; exact (if_neg (by decide +kernel)).trans r77
     have g78 : f 78 = .tuple #[.agg (cpuL r' pc').toArray, .agg #[.int .i64 0, .int .i64 0]] := by rw [← hfd]; exact (if_neg (by decide +kernel)).trans r78
     have g65 : f 65 = .tuple #[.agg (cpuL r' pc').toArray, .agg #[.int .i64 0, .int .i64 0]] := by rw [← hfd]; exact (if_neg (by decide +kernel)).trans r65
     have g79 : f 79 = .agg (cpuL r' pc').toArray := by rw [← hfd]; exact (if_neg (by decide +kernel)).trans r79
     have g80 : f 80 = .agg #[.int .i64 0, .int .i64 0] := by rw [← hfd]; exact if_pos rfl
     have g6 : f 6 = .pointer (some ⟨b6, 0, none⟩) := by rw [← hfd]; exact (if_neg (by decide +kernel)).trans r6
     have g7 : f 7 = .pointer (some ⟨b7, 0, none⟩) := by rw [← hfd]; exact (if_neg (by decide +kernel)).trans r7
     rw [show (List.range 18).map (a1_ _) = [66, 67, 68, 69, 70, 71, 72, 73, 74, 75, 76, 77, 78, 65, 79, 80, 6, 7] from by kernel_rfl]
     simp only [dw_, List.foldl, Act.put, List.drop, List.length, g66, g67, g68, g69, g70, g71, g72, g73, g74, g75, g76, g77, g78, g65, g79, g80, g6, g7, List.setIfInBounds_toArray, List.set_cons_zero, List.set_cons_succ]
     clear hs hfr hom hoe hfd g66 g67 g68 g69 g70 g71 g72 g73 g74 g75 g76 g77 g78 g65 g79 g80 g6 g7 r66 r67 r68 r69 r70 r71 r72 r73 r74 r75 r76 r77 r78 r65 r79 r6 r7
     have hs2 : SpaceAt w2 s pv ps' := hj
     have xp := ho2.kept HV.out.2.1 HN.out.1
     have xt := ao_ HV.out.2.2.1 ho2 HN.out.2.1
     have xe := ho2.kept HE.out (HN2.out _ (Nat.le_refl _))
     have lp2 := lt_of_block xp
     have lg2 := (ah_ xt).2.1
     have le2 := lt_of_block xe
     have lpV := lt_of_block HV.out.2.1
     have lgV := (ah_ HV.out.2.2.1).2.1
     have leV := lt_of_block HE.out
     have lk7 := lt_of_block k7
     have lk6 := lt_of_block k6
     have k76 : (w2.setRow b6 (cpuL r' pc').toArray).heap[b7]? = some (.cells #[.int .i64 0, .int .i64 0] 136 (0, 0)) := (setRow_other _ _ _ _ n67.symm).trans k7
     have H2 := h8_ ho2 hs2 xp xt xe k6 k7 k76
     clear ho2 hj hs2 xp xt xe k6 k7 k76
     go_upto_region 6 with ((with_reducible refine ad_ ?_); refine wpList_store_row rfl 136 _ _ rfl _ _ rfl rfl _ _ H2.out.2.2.2.2.2.2.2 (by kernel_rfl) (by rfl) (by simp [Value.oneCell']) ?_)
     refine ac_ fun X hX => ?_
     obtain ⟨ho2, hs2, xp, xt, xe, k6, k7, k76⟩ := H2.out
     have xo : Only (fun x => x = b6 ∨ x = b7) w2 X := by rw [← hX]; exact ((Only.refl (fun x => x = b6 ∨ x = b7) w2).setRow b6 _ (.inl (.inl rfl))).setRow b7 _ (.inl (.inr rfl))
     have x6 : X.heap[b6]? = some (.cells (cpuL r' pc').toArray 70 (0, 0)) := by rw [← hX]; exact (setRow_other _ _ _ _ n67).trans (setRow_heap _ _ _ _ _ _ k6)
     have x7 : X.heap[b7]? = some (.cells #[.int .i64 0, .int .i64 0] 136 (0, 0)) := by rw [← hX]; exact setRow_heap _ _ _ _ _ _ k76
     have xp := xo.kept xp (by omega)
     have xt := ao_ xt xo (by omega)
     have xe := xo.kept xe (by omega)
     have xs := hs2.kept xo (by
      rintro k hk (rfl | rfl)
      · exact hs2.notCells k6 (by decide) (by decide) (by decide) hk
      · exact hs2.notCells k7 (by decide) (by decide) (by decide) hk)
     have xoo : Only S V X := ho2.then xo (fun k hk e => by omega)
     have HX := h7_ x6 xp x7 xt xe xs xoo
     clear hX xo x6 x7 ho2 hs2 xp xt xe xs xoo H2 k6 k7 k76
     refine wq_ 8 [] (fun _ => False) [.pt p 0, .pt p 0, .pt p 3, .val (.slice (some ⟨gt, 0, none⟩) 1 ct), .val (.int .i64 0), .val (.agg (cpuL r' pc').toArray), .pt gt 0, .pt gt 0] (fun _ _ => True) (by kernel_rfl) (by kernel_rfl) (trivial) ?_ ?_
     · simp only [a4_, List.take]
       refine ⟨?_, ?_, ?_, ?_, ?_, ?_, ?_, ?_, trivial⟩
       all_goals intro k a wr ho hJ hk hr hf hd
       · have h0 : zp_ a 0 p 0 := (hf 0).trans rfl
         exact dp_ hJ (by simp [execOp, h0, go_sem])
       · have h81 : z_ a 81 _ := hd 0
         exact dp_ hJ (by simp [execOp, h81, go_sem])
       · have h82 : z_ a 82 _ := hd 1
         exact dp_ hJ (by simp [execOp, h82, go_sem])
       · have h83 : z_ a 83 _ := hd 2
         have hc := ab_ (ho.kept HX.out.2.1 id) 3 rfl
         exact dp_ hJ (by simp [execOp, h83, hc, go_sem])
       · have h1 : z_ a 1 (.int .i64 0) := (hf 1).trans rfl
         exact dp_ hJ (by simp [execOp, h1, go_sem])
       · have h6 : zp_ a 6 b6 0 := (hf 6).trans rfl
         exact ei_ 6 70 rfl b6 0 h6 (cpuL r' pc') _ (fun j u hj => by rw [Nat.zero_add]; exact ab_ (ho.kept HX.out.1 id) j hj) Tryz.underlying70 rfl (cpu_len _ _) ⟨rfl, Only.refl _ _, hJ⟩
       · have h84 : z_ a 84 _ := hd 3
         have h85 : z_ a 85 _ := hd 4
         exact dp_ hJ (by simp [execOp, h84, h85, go_sem])
       · have h87 : z_ a 87 _ := hd 6
         exact dp_ hJ (by simp [execOp, h87, go_sem])
     · intro fx w3 ho3 hj3 hs
       rw [seqv hs [81, 82, 83, 84, 85, 86, 87, 88] (by kernel_rfl)]
       simp only [actV, Act.put, List.drop, List.length, List.setIfInBounds_toArray, List.set_cons_zero, List.set_cons_succ]
       clear hs
       obtain ⟨x6, xp, x7, xt, xe, xs, xo⟩ := HX.out
       have yp := ho3.kept xp id
       have y7 := ho3.kept x7 id
       have yt := ao_ xt ho3 id
       have ye := ho3.kept xe id
       have ys := xs.kept ho3 (fun _ _ h => h)
       have ly7 := lt_of_block y7
       have lye := lt_of_block ye
       have lyp := lt_of_block yp
       have HY := h6_ yp y7 yt ye ys (xo.then ho3 (fun _ _ h => h.elim))
       clear ho3 hj3 x6 xp x7 xt xe xs xo yp y7 yt ye ys HX
       go_upto_region 7 with ((with_reducible refine ad_ ?_); refine wpList_store_mid rfl 70 _ _ rfl gt 0 (cpuL r' pc').toArray rfl rfl ?ht (dv_ _ _) (gs_ _ _) ?_)
       case ht =>
        intro j hj
        have hl : (cpuL r pc).toArray.size = (cpuL r' pc').toArray.size := by unfold cpuL; rfl
        have hj' : j < (cpuL r pc).length := by rw [← hl, List.size_toArray] at hj; exact hj
        obtain ⟨h1, h2⟩ := row_cell HY.out.2.2.1 j (j4_ (List.getElem?_eq_getElem hj'))
        rw [Nat.zero_add, h1]
        exact ⟨rfl, h2⟩
       refine ac_ fun Z hZ => ?_
       obtain ⟨yp, y7, yt, ye, ys, yo⟩ := HY.out
       obtain ⟨_, lgt3, cur, hcur⟩ := ah_ yt
       have zo : Only (· = gt) w3 Z := by rw [← hZ]; exact Only.setCells (S := (· = gt)) gt (.inl rfl) _ 0 _ (Only.refl _ _)
       have zt : Z.ownsRow 0 133 23 (.slice (some ⟨gt, 0, none⟩) 1 ct) 1 (thrG r' pc' calls) := by
        rw [← hZ, ← nd_ r r' pc pc' calls]
        exact hq_ yt (by unfold cpuL; simp)
       have z7 := zo.kept y7 (by omega)
       have ze := zo.kept ye (by omega)
       have zp := zo.kept yp HN.out.2.2
       have zs := ys.kept zo (by
        rintro k hk rfl
        exact ys.notCells hcur (by decide) (by decide) (by decide) hk)
       have zoo := (yo.mono (T := fun x => S x ∨ x = gt) (fun _ _ h => .inl h)).then zo (fun k _ h => .inr h)
       have lz7 := lt_of_block z7
       have lze := lt_of_block ze
       have lzp := lt_of_block zp
       have c70 := ab_ z7 0 rfl
       have HZ := h6_ z7 ze zp zs zt zoo
       clear hZ zo zt z7 ze zp zs zoo yp y7 yt ye ys yo HY hcur
       go_wp2_with (first
        | (refine wpList_load_row rfl 136 (.tmp 7) rfl b7 rfl 136 #[.int .i64 0, .int .i64 0] (0, 0) _ HZ.out.1 Tryz.underlying136 rfl (by kernel_rfl) ?_)
        | ((with_reducible refine ad_ ?_); refine wpList_store_row rfl 136 _ _ rfl _ _ rfl rfl _ _ HZ.out.2.1 (by kernel_rfl) (by rfl) (by simp [Value.oneCell']) ?_))
       obtain ⟨z7, ze, zp, zs, zt, zoo⟩ := HZ.out
       have ho4 : Only (fun x => S x ∨ x = gt) w (Z.setRow w.heap.size #[.int .i64 0, .int .i64 0]) := ((HV.out.1.mono (fun k _ h => .inr h)).trans zoo).setRow w.heap.size _ (.inr (Nat.le_refl _))
       have hn4 : ¬ (fun x => x = w.heap.size) gt := by show ¬ gt = w.heap.size; omega
       have o1 : Only (· = w.heap.size) Z (Z.setRow w.heap.size #[.int .i64 0, .int .i64 0]) := (Only.refl (· = w.heap.size) Z).setRow _ _ (.inl rfl)
       refine bodyPost_ret (da_ rfl _ _ w.heap.size 136 #[.int .i64 0, .int .i64 0] (0, 0) _ rfl (setRow_heap _ _ _ _ _ _ ze) Tryz.underlying136 rfl (by kernel_rfl)) rfl ⟨rfl, ho4, ?_, ao_ zt o1 hn4⟩
       exact zs.kept o1 (by
        rintro k hk rfl
        exact zs.notCells ze (by decide) (by decide) (by decide) hk)
end Two
namespace Two
open Go.RowKit
attribute [local go_sem] ak_ af_
theorem thr_15 (r : Nat → Int) (pc : Int) (calls : Value) : (thrG r pc calls)[(15 : Nat)]? = some (.int .i64 (r 15)) := by unfold thrG cpuL; rfl
theorem thr_16 (r : Nat → Int) (pc : Int) (calls : Value) : (thrG r pc calls)[(16 : Nat)]? = some (.int .i64 pc) := by unfold thrG cpuL; rfl
theorem u0_ (r : Nat → Int) (pc : Int) (calls : Value) : (thrG r pc calls)[(21 : Nat)]? = some calls := by unfold thrG cpuL; rfl
theorem qx_ (r : Nat → Int) (pc : Int) (calls : Value) : (thrG r pc calls)[(22 : Nat)]? = some (.slice none 0 0) := by unfold thrG cpuL; rfl
theorem xg_ (r : Nat → Int) (pc x y : Int) (calls v : Value) : (((thrG r pc calls).set 15 (.int .i64 x)).set 16 (.int .i64 y)).set 21 v = thrG (upd r 15 x) y v := by unfold thrG cpuL; rfl
attribute [local irreducible] cpuL thrG
theorem xh_ (p s b l gt ct gc cc gp cap b1 b2 : Nat) (D : List UInt8) (r : Nat → Int) (hr : r 15 = 2048) (w : World)
 (hp : w.heap[p]? = some (.cells (es_ s b l (.slice (some ⟨gt, 0, none⟩) 1 ct)).toArray 117 (0, 0)))
 (ht : w.ownsRow 0 133 23 (.slice (some ⟨gt, 0, none⟩) 1 ct) 1 (thrG r 0 (.slice (some ⟨gc, 0, none⟩) 1 cc)))
 (hc : w.ownsRow 0 3 1 (.slice (some ⟨gc, 0, none⟩) 1 cc) 1 [.int .i64 512])
 (hsp : SpaceAt w s (.slice (some ⟨gp, 0, none⟩) (twoP b1 b2 D).length cap) (twoP b1 b2 D)) :
 Calls Tryz.prog 76 #[.pointer (some ⟨p, 0, none⟩), .int .i64 0] w fun e w' => e = .returned (.tuple #[]) ∧ Only (fun x => x = b2 ∨ x = gt) w w' ∧
  SpaceAt w' s (.slice (some ⟨gp, 0, none⟩) (twoP b1 b2 D).length cap) ((twoP b1 b2 D).set 1 ((im_ b2 D).put 2040 (ct_ 0))) ∧ ∃ A c, w'.ownsRow 0 133 23 (.slice (some ⟨gt, 0, none⟩) 1 ct) 1 (thrG (upd r 15 2040) 512 (.slice A 0 c)) := by
 have lp := lt_of_block hp
 have HP := h1_ hp
 obtain ⟨_, lgt, cur, hcur⟩ := ah_ ht
 obtain ⟨_, lgc, curc, hcurc⟩ := ah_ hc
 obtain ⟨b', b2', curb, hb3, hb4, hb5⟩ := hsp.bytes.2 (im_ b2 D) (by simp [twoP])
 have ngb : gt ≠ b2 := am_ hcur hb3 (by decide)
 have ngcb : gc ≠ b2 := am_ hcurc hb3 (by decide)
 have ngcg : gc ≠ gt := am_ hcurc hcur (by decide)
 have npb : p ≠ b2 := am_ hp hb3 (by decide)
 have HH := h3_ ht hc hsp
 have HN := h4_ ngb ngcb ngcg npb
 have p3 := hp
 unfold es_ at p3
 have c3 := ab_ p3 3 rfl; have c0 := ab_ p3 0 rfl
 obtain ⟨d15, f15⟩ := row_cell ht 15 (thr_15 _ _ _)
 obtain ⟨d21, f21⟩ := row_cell ht 21 (u0_ _ _ _)
 obtain ⟨d22, f22⟩ := row_cell ht 22 (qx_ _ _ _)
 rw [hr] at d15
 clear hp ht hc hsp hcur hcurc hb3 hb4 hb5 p3 ngb ngcb ngcg npb
 go_enter Tryz.func76, Tryz.ntmps76
 go_wp2_with fail
 go_at_call 169
 refine (kw_ s gp cap (twoP b1 b2 D) 2040 0 _ (f7_ b1 b2 D) HH.out.2.2 1 (ic_ (by omega)) (im_ b2 D) rfl (by show (2040 : Int) - 1024 + 8 ≤ 1024; omega) (by decide) (by exact (by decide : (2 : Int) ≠ 0))).mono ?_
 rintro e w1 ⟨rfl, ho1, hs1⟩
 have ho1' : Only (· = b2) w w1 := ho1
 have xp := ho1'.kept HP.out HN.out.2.2.2
 have xt := ao_ HH.out.1 ho1' HN.out.1
 have xc := ao_ HH.out.2.1 ho1' HN.out.2.1
 obtain ⟨d15, f15⟩ := row_cell xt 15 (thr_15 _ _ _)
 obtain ⟨d16, f16⟩ := row_cell xt 16 (thr_16 _ _ _)
 obtain ⟨d21, f21⟩ := row_cell xt 21 (u0_ _ _ _)
 obtain ⟨e0, _⟩ := row_cell xc 0 (u := .int .i64 512) rfl
 have lt1 := (ah_ xt).2.1
 have lc1 := (ah_ xc).2.1
 have H1 := h5_ ho1' hs1 xp xt xc
 rw [hr] at d15
 clear ho1 ho1' hs1 xp xt xc c3 c0 d22 f22
 go_wp2
 go_region
 generalize (if cc = 1 then some (⟨gc, 0, none⟩ : Addr) else some ⟨gc, 1, none⟩) = A
 generalize cc - 1 = c1
 go_wp2
 go_end0
 obtain ⟨ho1, hs1, xp, xt, xc⟩ := H1.out
 have o2 : Only (· = gt) w1 ((((w1.setCell ⟨gt, 15, none⟩ (.int .i64 2040)).setCell ⟨gt, 16, none⟩ (.int .i64 512)).setCell ⟨gt, 21, none⟩ (.slice A 0 c1)).drew) :=
  ((((Only.refl (· = gt) w1).setCell _ _ (.inl rfl)).setCell _ _ (.inl rfl)).setCell _ _ (.inl rfl)).drew
 have zt := b7_ (b7_ (b7_ xt 15 (.int .i64 2040)) 16 (.int .i64 512)) 21 (.slice A 0 c1)
 rw [xg_] at zt
 obtain ⟨_, _, cur1, hcur1⟩ := ah_ xt
 refine ⟨rfl, (ho1.mono (fun _ _ h => .inl h)).then o2 (fun k _ h => .inr h), hs1.kept o2 (by
  rintro k hk rfl
  exact hs1.notCells hcur1 (by decide) (by decide) (by decide) hk), A, c1, ai_ zt ((Below.refl _ _).drew)⟩
end Two
namespace Two
open Go.RowKit
attribute [local go_sem] ak_ af_
attribute [local irreducible] cpuL thrG
theorem u1_ (p s b l gt ct : Nat) (r r' : Nat → Int) (pc pc' : Int) (calls : Value) (pv : Value) (ps ps' : List Part) (S : Nat → Prop) (w : World)
 (hp : w.heap[p]? = some (.cells (es_ s b l (.slice (some ⟨gt, 0, none⟩) 1 ct)).toArray 117 (0, 0)))
 (ht : w.ownsRow 0 133 23 (.slice (some ⟨gt, 0, none⟩) 1 ct) 1 (thrG r pc calls))
 (hsp : SpaceAt w s pv ps) (hnp : ¬ S p) (hng : ¬ S gt) (hnw : ∀ b, w.heap.size ≤ b → ¬ S b)
 (hm : ∀ w1, SpaceAt w1 s pv ps → Only (fun x => S x ∨ x = gt) w w1 → Calls Tryz.prog 74 #[.pointer (some ⟨s, 0, none⟩), .agg (cpuL r pc).toArray] w1 fun e w' => e = .returned (.tuple #[.agg (cpuL r' pc').toArray, .agg #[.int .i64 4, .int .i64 0]]) ∧ Only S w1 w' ∧ SpaceAt w' s pv ps')
 (T : Nat → Prop) (r2 : Nat → Int) (pc2 : Int) (ps2 : List Part) (hTw : ∀ b, w.heap.size ≤ b → ¬ T b)
 (hpr : ∀ w1, w1.heap[p]? = some (.cells (es_ s b l (.slice (some ⟨gt, 0, none⟩) 1 ct)).toArray 117 (0, 0)) → w1.ownsRow 0 133 23 (.slice (some ⟨gt, 0, none⟩) 1 ct) 1 (thrG r' pc' calls) → SpaceAt w1 s pv ps' → Only (fun x => S x ∨ x = gt) w w1 →
   Calls Tryz.prog 76 #[.pointer (some ⟨p, 0, none⟩), .int .i64 0] w1 fun e w' => e = .returned (.tuple #[]) ∧ Only T w1 w' ∧ SpaceAt w' s pv ps2 ∧ ∃ A c, w'.ownsRow 0 133 23 (.slice (some ⟨gt, 0, none⟩) 1 ct) 1 (thrG r2 pc2 (.slice A 0 c))) :
 Calls Tryz.prog 39 #[.pointer (some ⟨p, 0, none⟩), .int .i64 0] w fun e w' => e = .returned (.agg #[.int .i64 4, .int .i64 0]) ∧ Only (fun x => (S x ∨ x = gt) ∨ T x) w w' ∧ SpaceAt w' s pv ps2 ∧ ∃ A c, w'.ownsRow 0 133 23 (.slice (some ⟨gt, 0, none⟩) 1 ct) 1 (thrG r2 pc2 (.slice A 0 c)) := by
 have HN2 := h1_ hnw
 have HPR := h1_ hpr
 have HT2 := h1_ hTw
 clear hnw hpr hTw
 have lp := lt_of_block hp
 have HP := h1_ hp
 obtain ⟨_, lgt, cur, hcur⟩ := ah_ ht
 have npg : p ≠ gt := am_ hp hcur (by decide)
 have HN := h3_ hnp hng npg
 have HT := h1_ ht
 have HS := h1_ hsp
 have HM := h1_ hm
 have HF := h1_ (show ∀ k, e1_ s pv ps k → ¬ k = gt by rintro k hk rfl; exact hsp.notCells hcur (by decide) (by decide) (by decide) hk)
 unfold es_ at hp
 have c0 := ab_ hp 0 rfl; have c3 := ab_ hp 3 rfl; have c7 := ab_ hp 7 rfl
 obtain ⟨d17, f17⟩ := row_cell ht 17 (uz_ r pc calls)
 clear hp ht hsp hm hcur hnp hng
 go_enter Tryz.func39, Tryz.ntmps39
 go_upto_region 5 with fail
 refine ac_ fun V hV => ?_
 have vo : Only (· = gt) w V := by rw [← hV]; exact ((Only.refl (· = gt) _).setCell ⟨gt, 17, none⟩ _ (.inl rfl)).alloc _
 have vp := vo.kept HP.out npg
 have vt : V.ownsRow 0 133 23 (.slice (some ⟨gt, 0, none⟩) 1 ct) 1 (thrG r pc calls) := by
  rw [← hV, ← nc_ r pc calls]
  exact ai_ (b7_ HT.out 17 (.int .i64 0)) ((Below.refl _ _).alloc (Nat.le_refl _) _)
 have vs := HS.out.kept vo HF.out
 have ve : V.heap[w.heap.size]? = some (.cells #[.int .i64 0, .int .i64 0] 136 (0, 0)) := by rw [← hV]; exact block_at (by simp)
 have HV := h4_ vo vp vt vs
 have HE := h1_ ve
 have lwV : w.heap.size < V.heap.size := lt_of_block ve
 clear hV vo vp vt vs ve c0 c3 c7 d17 f17
 refine wl_ 18 15 [12] (S) [.pt p 0, .pt p 0, .pt p 0, .pt s 0, .pt p 0, .pt p 0, .pt p 3, .val (.slice (some ⟨gt, 0, none⟩) 1 ct), .val (.int .i64 0), .pt gt 0, .pt gt 0, .val (.agg (cpuL r pc).toArray), .val (.tuple #[.agg (cpuL r' pc').toArray, .agg #[.int .i64 4, .int .i64 0]]), .val (.tuple #[.agg (cpuL r' pc').toArray, .agg #[.int .i64 4, .int .i64 0]]), .val (.agg (cpuL r' pc').toArray), .val (.agg #[.int .i64 4, .int .i64 0]), .more (fun v x => ∃ b, v = .pointer (some ⟨b, 0, none⟩) ∧ V.heap.size ≤ b ∧ ¬ S b ∧ x.heap[b]? = some (.cells #[.int .i64 0, .int .i64 0, .int .i64 0, .int .i64 0, .int .i64 0, .int .i64 0, .int .i64 0, .int .i64 0, .int .i64 0, .int .i64 0, .int .i64 0, .int .i64 0, .int .i64 0, .int .i64 0, .int .i64 0, .int .i64 0, .int .i64 0] 70 (0, 0))) (fun v x y ho h => by obtain ⟨b, h1, h2, h3, h4⟩ := h; exact ⟨b, h1, h2, h3, ho.kept h4 h3⟩), .more (fun v x => ∃ b, v = .pointer (some ⟨b, 0, none⟩) ∧ V.heap.size ≤ b ∧ ¬ S b ∧ x.heap[b]? = some (.cells #[.int .i64 0, .int .i64 0] 136 (0, 0))) (fun v x y ho h => by obtain ⟨b, h1, h2, h3, h4⟩ := h; exact ⟨b, h1, h2, h3, ho.kept h4 h3⟩)] (fun k x => SpaceAt x s pv (if k = 0 then ps else ps')) (.agg #[.int .i64 4, .int .i64 0]) (by kernel_rfl) (by kernel_rfl) (HV.out.2.2.2.below ((Below.refl _ _).drew)) ?_ rfl ?_
 · simp only [a4_, List.take]
   refine ⟨?_, ?_, ?_, ?_, ?_, ?_, ?_, ?_, ?_, ?_, ?_, ?_, ?_, ?_, ?_, ?_, ?_, ?_, trivial⟩
   all_goals intro k a wr ho hJ hk hr hf hd
   · have h0 : zp_ a 0 p 0 := (hf 0).trans rfl
     exact dp_ hJ (by simp [execOp, h0, go_sem])
   · have h66 : z_ a 66 _ := hd 0
     exact dp_ hJ (by simp [execOp, h66, go_sem])
   · have h67 : z_ a 67 _ := hd 1
     exact dp_ hJ (by simp [execOp, h67, go_sem])
   · have h68 : z_ a 68 _ := hd 2
     have hc := ab_ (ho.kept HV.out.2.1 HN.out.1) 0 rfl
     exact dp_ hJ (by simp [execOp, h68, hc, go_sem])
   · have h0 : zp_ a 0 p 0 := (hf 0).trans rfl
     exact dp_ hJ (by simp [execOp, h0, go_sem])
   · have h70 : z_ a 70 _ := hd 4
     exact dp_ hJ (by simp [execOp, h70, go_sem])
   · have h71 : z_ a 71 _ := hd 5
     exact dp_ hJ (by simp [execOp, h71, go_sem])
   · have h72 : z_ a 72 _ := hd 6
     have hc := ab_ (ho.kept HV.out.2.1 HN.out.1) 3 rfl
     exact dp_ hJ (by simp [execOp, h72, hc, go_sem])
   · have h1 : z_ a 1 (.int .i64 0) := (hf 1).trans rfl
     exact dp_ hJ (by simp [execOp, h1, go_sem])
   · have h73 : z_ a 73 _ := hd 7
     have h74 : z_ a 74 _ := hd 8
     exact dp_ hJ (by simp [execOp, h73, h74, go_sem])
   · have h75 : z_ a 75 _ := hd 9
     exact dp_ hJ (by simp [execOp, h75, go_sem])
   · have h76 : z_ a 76 _ := hd 10
     exact ei_ 76 70 rfl gt 0 h76 (cpuL r pc) _ (fun j u hj => (row_cell (ao_ HV.out.2.2.1 ho HN.out.2.1) (0 + j) (by rw [Nat.zero_add]; exact j4_ hj)).1) Tryz.underlying70 rfl (cpu_len _ _) ⟨rfl, Only.refl _ _, hJ⟩
   · have h69 : z_ a 69 _ := hd 3
     have h77 : z_ a 77 _ := hd 11
     obtain rfl := hk 0 (by decide) rfl
     exact a0_ (f := 74) (args := #[.pointer (some ⟨s, 0, none⟩), .agg (cpuL r pc).toArray]) (by simp [execOp, h69, h77, go_sem]) ((HM.out _ (by simpa using hJ) ((HV.out.1.mono (fun k _ h => .inr h)).trans (ho.mono (fun k _ h => .inl h)))).mono fun e w' ⟨he, hoo, hs'⟩ => ⟨_, he, rfl, hoo, hs'⟩)
   · have h78 : z_ a 78 _ := hd 12
     exact dp_ hJ (by simp [execOp, h78, go_sem])
   · have h65 : z_ a 65 _ := hd 13
     exact dp_ hJ (by simp [execOp, h65, go_sem])
   · have h65 : z_ a 65 _ := hd 13
     exact dp_ hJ (by simp [execOp, h65, go_sem])
   · exact bc_ (v := .pointer (some ⟨wr.heap.size, 0, none⟩)) (w' := wr.alloc (.cells #[.int .i64 0, .int .i64 0, .int .i64 0, .int .i64 0, .int .i64 0, .int .i64 0, .int .i64 0, .int .i64 0, .int .i64 0, .int .i64 0, .int .i64 0, .int .i64 0, .int .i64 0, .int .i64 0, .int .i64 0, .int .i64 0, .int .i64 0] 70)) (by simp [execOp, go_sem]) ⟨⟨_, rfl, ho.size, HN2.out _ (by have := ho.size; omega), heap_alloc_new _ _⟩, (Only.refl _ _).alloc _, hJ.below ((Below.refl _ _).alloc (Nat.le_refl _) _)⟩
   · exact bc_ (v := .pointer (some ⟨wr.heap.size, 0, none⟩)) (w' := wr.alloc (.cells #[.int .i64 0, .int .i64 0] 136)) (by simp [execOp, go_sem]) ⟨⟨_, rfl, ho.size, HN2.out _ (by have := ho.size; omega), heap_alloc_new _ _⟩, (Only.refl _ _).alloc _, hJ.below ((Below.refl _ _).alloc (Nat.le_refl _) _)⟩
 · intro a w2 ho2 hj hs hfr om oe hom hoe
   obtain rfl := Option.some.inj hom
   obtain rfl := Option.some.inj hoe
   have r66 : a.tmps.getD 66 undef = .pointer (some ⟨p, 0, none⟩) := hs 0 (by decide) (by decide)
   have r67 : a.tmps.getD 67 undef = .pointer (some ⟨p, 0, none⟩) := hs 1 (by decide) (by decide)
   have r68 : a.tmps.getD 68 undef = .pointer (some ⟨p, 0, none⟩) := hs 2 (by decide) (by decide)
   have r69 : a.tmps.getD 69 undef = .pointer (some ⟨s, 0, none⟩) := hs 3 (by decide) (by decide)
   have r70 : a.tmps.getD 70 undef = .pointer (some ⟨p, 0, none⟩) := hs 4 (by decide) (by decide)
   have r71 : a.tmps.getD 71 undef = .pointer (some ⟨p, 0, none⟩) := hs 5 (by decide) (by decide)
   have r72 : a.tmps.getD 72 undef = .pointer (some ⟨p, 3, none⟩) := hs 6 (by decide) (by decide)
   have r73 : a.tmps.getD 73 undef = .slice (some ⟨gt, 0, none⟩) 1 ct := hs 7 (by decide) (by decide)
   have r74 : a.tmps.getD 74 undef = .int .i64 0 := hs 8 (by decide) (by decide)
   have r75 : a.tmps.getD 75 undef = .pointer (some ⟨gt, 0, none⟩) := hs 9 (by decide) (by decide)
   have r76 : a.tmps.getD 76 undef = .pointer (some ⟨gt, 0, none⟩) := hs 10 (by decide) (by decide)
   have r77 : a.tmps.getD 77 undef = .agg (cpuL r pc).toArray := hs 11 (by decide) (by decide)
   have r78 : a.tmps.getD 78 undef = .tuple #[.agg (cpuL r' pc').toArray, .agg #[.int .i64 4, .int .i64 0]] := hs 12 (by decide) (by decide)
   have r65 : a.tmps.getD 65 undef = .tuple #[.agg (cpuL r' pc').toArray, .agg #[.int .i64 4, .int .i64 0]] := hs 13 (by decide) (by decide)
   have r79 : a.tmps.getD 79 undef = .agg (cpuL r' pc').toArray := hs 14 (by decide) (by decide)
   have q6 := hs 16 (by decide) (by decide)
   have q7 := hs 17 (by decide) (by decide)
   obtain ⟨b6, r6, l6, n6, k6⟩ : ∃ b, a.tmps.getD 6 undef = .pointer (some ⟨b, 0, none⟩) ∧ V.heap.size ≤ b ∧ ¬ S b ∧ w2.heap[b]? = some (.cells #[.int .i64 0, .int .i64 0, .int .i64 0, .int .i64 0, .int .i64 0, .int .i64 0, .int .i64 0, .int .i64 0, .int .i64 0, .int .i64 0, .int .i64 0, .int .i64 0, .int .i64 0, .int .i64 0, .int .i64 0, .int .i64 0, .int .i64 0] 70 (0, 0)) := q6
   obtain ⟨b7, r7, l7, n7, k7⟩ : ∃ b, a.tmps.getD 7 undef = .pointer (some ⟨b, 0, none⟩) ∧ V.heap.size ≤ b ∧ ¬ S b ∧ w2.heap[b]? = some (.cells #[.int .i64 0, .int .i64 0] 136 (0, 0)) := q7
   have n67 : b6 ≠ b7 := am_ k6 k7 (by decide)
   refine ⟨w2.setRow b6 (cpuL r' pc').toArray, fun K hK => ?_, ?_, ?_⟩
   · exact wp_store_row 70 (.tmp 6) (.tmp 79) rfl b6 (cpuL r' pc').toArray (by simpa [Act.eval, Array.getD_eq_getD_getElem?] using r6) (by simpa [Act.eval, Array.getD_eq_getD_getElem?] using r79) 70 _ k6 (dv_ _ _) (by unfold cpuL; rfl) (gs_ _ _) hK
   · have h65 : z_ a 65 (.tuple #[.agg (cpuL r' pc').toArray, .agg #[.int .i64 4, .int .i64 0]]) := by simpa [Array.getD_eq_getD_getElem?] using r65
     simp [execOp, h65, go_sem]
   · generalize hfd : (fun s : Tmp => if s = a1_ _ 15 then _ else a.tmps.getD s undef) = f
     have g66 : f 66 = .pointer (some ⟨p, 0, none⟩) := by rw [← hfd]; exact (if_neg (by decide +kernel)).trans r66
     have g67 : f 67 = .pointer (some ⟨p, 0, none⟩) := by rw [← hfd]; exact (if_neg (by decide +kernel)).trans r67
     have g68 : f 68 = .pointer (some ⟨p, 0, none⟩) := by rw [← hfd]; exact (if_neg (by decide +kernel)).trans r68
     have g69 : f 69 = .pointer (some ⟨s, 0, none⟩) := by rw [← hfd]; exact (if_neg (by decide +kernel)).trans r69
     have g70 : f 70 = .pointer (some ⟨p, 0, none⟩) := by rw [← hfd]; exact (if_neg (by decide +kernel)).trans r70
     have g71 : f 71 = .pointer (some ⟨p, 0, none⟩) := by rw [← hfd]; exact (if_neg (by decide +kernel)).trans r71
     have g72 : f 72 = .pointer (some ⟨p, 3, none⟩) := by rw [← hfd]; exact (if_neg (by decide +kernel)).trans r72
     have g73 : f 73 = .slice (some ⟨gt, 0, none⟩) 1 ct := by rw [← hfd]; exact (if_neg (by decide +kernel)).trans r73
     have g74 : f 74 = .int .i64 0 := by rw [← hfd]; exact (if_neg (by decide +kernel)).trans r74
     have g75 : f 75 = .pointer (some ⟨gt, 0, none⟩) := by rw [← hfd]; exact (if_neg (by decide +kernel)).trans r75
     have g76 : f 76 = .pointer (some ⟨gt, 0, none⟩) := by rw [← hfd]; exact (if_neg (by decide +kernel)).trans r76
     have g77 : f 77 = .agg (cpuL r pc).toArray := by rw [← hfd]; exact (if_neg (by decide +kernel)).trans r77
     have g78 : f 78 = .tuple #[.agg (cpuL r' pc').toArray, .agg #[.int .i64 4, .int .i64 0]] := by rw [← hfd]; exact (if_neg (by decide +kernel)).trans r78
     have g65 : f 65 = .tuple #[.agg (cpuL r' pc').toArray, .agg #[.int .i64 4, .int .i64 0]] := by rw [← hfd]; exact (if_neg (by decide +kernel)).trans r65
     have g79 : f 79 = .agg (cpuL r' pc').toArray := by rw [← hfd]; exact (if_neg (by decide +kernel)).trans r79
     have g80 : f 80 = .agg #[.int .i64 4, .int .i64 0] := by rw [← hfd]; exact if_pos rfl
     have g6 : f 6 = .pointer (some ⟨b6, 0, none⟩) := by rw [← hfd]; exact (if_neg (by decide +kernel)).trans r6
     have g7 : f 7 = .pointer (some ⟨b7, 0, none⟩) := by rw [← hfd]; exact (if_neg (by decide +kernel)).trans r7
     rw [show (List.range 18).map (a1_ _) = [66, 67, 68, 69, 70, 71, 72, 73, 74, 75, 76, 77, 78, 65, 79, 80, 6, 7] from by kernel_rfl]
     simp only [dw_, List.foldl, Act.put, List.drop, List.length, g66, g67, g68, g69, g70, g71, g72, g73, g74, g75, g76, g77, g78, g65, g79, g80, g6, g7, List.setIfInBounds_toArray, List.set_cons_zero, List.set_cons_succ]
     clear hs hfr hom hoe hfd g66 g67 g68 g69 g70 g71 g72 g73 g74 g75 g76 g77 g78 g65 g79 g80 g6 g7 r66 r67 r68 r69 r70 r71 r72 r73 r74 r75 r76 r77 r78 r65 r79 r6 r7
     have hs2 : SpaceAt w2 s pv ps' := hj
     have xp := ho2.kept HV.out.2.1 HN.out.1
     have xt := ao_ HV.out.2.2.1 ho2 HN.out.2.1
     have xe := ho2.kept HE.out (HN2.out _ (Nat.le_refl _))
     have lp2 := lt_of_block xp
     have lg2 := (ah_ xt).2.1
     have le2 := lt_of_block xe
     have lpV := lt_of_block HV.out.2.1
     have lgV := (ah_ HV.out.2.2.1).2.1
     have leV := lt_of_block HE.out
     have lk7 := lt_of_block k7
     have lk6 := lt_of_block k6
     have k76 : (w2.setRow b6 (cpuL r' pc').toArray).heap[b7]? = some (.cells #[.int .i64 0, .int .i64 0] 136 (0, 0)) := (setRow_other _ _ _ _ n67.symm).trans k7
     have H2 := h8_ ho2 hs2 xp xt xe k6 k7 k76
     clear ho2 hj hs2 xp xt xe k6 k7 k76
     go_upto_region 6 with ((with_reducible refine ad_ ?_); refine wpList_store_row rfl 136 _ _ rfl _ _ rfl rfl _ _ H2.out.2.2.2.2.2.2.2 (by kernel_rfl) (by rfl) (by simp [Value.oneCell']) ?_)
     refine ac_ fun X hX => ?_
     obtain ⟨ho2, hs2, xp, xt, xe, k6, k7, k76⟩ := H2.out
     have xo : Only (fun x => x = b6 ∨ x = b7) w2 X := by rw [← hX]; exact ((Only.refl (fun x => x = b6 ∨ x = b7) w2).setRow b6 _ (.inl (.inl rfl))).setRow b7 _ (.inl (.inr rfl))
     have x6 : X.heap[b6]? = some (.cells (cpuL r' pc').toArray 70 (0, 0)) := by rw [← hX]; exact (setRow_other _ _ _ _ n67).trans (setRow_heap _ _ _ _ _ _ k6)
     have x7 : X.heap[b7]? = some (.cells #[.int .i64 4, .int .i64 0] 136 (0, 0)) := by rw [← hX]; exact setRow_heap _ _ _ _ _ _ k76
     have xp := xo.kept xp (by omega)
     have xt := ao_ xt xo (by omega)
     have xe := xo.kept xe (by omega)
     have xs := hs2.kept xo (by
      rintro k hk (rfl | rfl)
      · exact hs2.notCells k6 (by decide) (by decide) (by decide) hk
      · exact hs2.notCells k7 (by decide) (by decide) (by decide) hk)
     have xoo : Only S V X := ho2.then xo (fun k hk e => by omega)
     have HX := h7_ x6 xp x7 xt xe xs xoo
     clear hX xo x6 x7 ho2 hs2 xp xt xe xs xoo H2 k6 k7 k76
     refine wq_ 8 [] (fun _ => False) [.pt p 0, .pt p 0, .pt p 3, .val (.slice (some ⟨gt, 0, none⟩) 1 ct), .val (.int .i64 0), .val (.agg (cpuL r' pc').toArray), .pt gt 0, .pt gt 0] (fun _ _ => True) (by kernel_rfl) (by kernel_rfl) (trivial) ?_ ?_
     · simp only [a4_, List.take]
       refine ⟨?_, ?_, ?_, ?_, ?_, ?_, ?_, ?_, trivial⟩
       all_goals intro k a wr ho hJ hk hr hf hd
       · have h0 : zp_ a 0 p 0 := (hf 0).trans rfl
         exact dp_ hJ (by simp [execOp, h0, go_sem])
       · have h81 : z_ a 81 _ := hd 0
         exact dp_ hJ (by simp [execOp, h81, go_sem])
       · have h82 : z_ a 82 _ := hd 1
         exact dp_ hJ (by simp [execOp, h82, go_sem])
       · have h83 : z_ a 83 _ := hd 2
         have hc := ab_ (ho.kept HX.out.2.1 id) 3 rfl
         exact dp_ hJ (by simp [execOp, h83, hc, go_sem])
       · have h1 : z_ a 1 (.int .i64 0) := (hf 1).trans rfl
         exact dp_ hJ (by simp [execOp, h1, go_sem])
       · have h6 : zp_ a 6 b6 0 := (hf 6).trans rfl
         exact ei_ 6 70 rfl b6 0 h6 (cpuL r' pc') _ (fun j u hj => by rw [Nat.zero_add]; exact ab_ (ho.kept HX.out.1 id) j hj) Tryz.underlying70 rfl (cpu_len _ _) ⟨rfl, Only.refl _ _, hJ⟩
       · have h84 : z_ a 84 _ := hd 3
         have h85 : z_ a 85 _ := hd 4
         exact dp_ hJ (by simp [execOp, h84, h85, go_sem])
       · have h87 : z_ a 87 _ := hd 6
         exact dp_ hJ (by simp [execOp, h87, go_sem])
     · intro fx w3 ho3 hj3 hs
       rw [seqv hs [81, 82, 83, 84, 85, 86, 87, 88] (by kernel_rfl)]
       simp only [actV, Act.put, List.drop, List.length, List.setIfInBounds_toArray, List.set_cons_zero, List.set_cons_succ]
       clear hs
       obtain ⟨x6, xp, x7, xt, xe, xs, xo⟩ := HX.out
       have yp := ho3.kept xp id
       have y7 := ho3.kept x7 id
       have yt := ao_ xt ho3 id
       have ye := ho3.kept xe id
       have ys := xs.kept ho3 (fun _ _ h => h)
       have ly7 := lt_of_block y7
       have lye := lt_of_block ye
       have lyp := lt_of_block yp
       have HY := h6_ yp y7 yt ye ys (xo.then ho3 (fun _ _ h => h.elim))
       clear ho3 hj3 x6 xp x7 xt xe xs xo yp y7 yt ye ys HX
       go_upto_region 7 with ((with_reducible refine ad_ ?_); refine wpList_store_mid rfl 70 _ _ rfl gt 0 (cpuL r' pc').toArray rfl rfl ?ht (dv_ _ _) (gs_ _ _) ?_)
       case ht =>
        intro j hj
        have hl : (cpuL r pc).toArray.size = (cpuL r' pc').toArray.size := by unfold cpuL; rfl
        have hj' : j < (cpuL r pc).length := by rw [← hl, List.size_toArray] at hj; exact hj
        obtain ⟨h1, h2⟩ := row_cell HY.out.2.2.1 j (j4_ (List.getElem?_eq_getElem hj'))
        rw [Nat.zero_add, h1]
        exact ⟨rfl, h2⟩
       refine ac_ fun Z hZ => ?_
       obtain ⟨yp, y7, yt, ye, ys, yo⟩ := HY.out
       obtain ⟨_, lgt3, cur, hcur⟩ := ah_ yt
       have zo : Only (· = gt) w3 Z := by rw [← hZ]; exact Only.setCells (S := (· = gt)) gt (.inl rfl) _ 0 _ (Only.refl _ _)
       have zt : Z.ownsRow 0 133 23 (.slice (some ⟨gt, 0, none⟩) 1 ct) 1 (thrG r' pc' calls) := by
        rw [← hZ, ← nd_ r r' pc pc' calls]
        exact hq_ yt (by unfold cpuL; simp)
       have z7 := zo.kept y7 (by omega)
       have ze := zo.kept ye (by omega)
       have zp := zo.kept yp HN.out.2.2
       have zs := ys.kept zo (by
        rintro k hk rfl
        exact ys.notCells hcur (by decide) (by decide) (by decide) hk)
       have zoo := (yo.mono (T := fun x => S x ∨ x = gt) (fun _ _ h => .inl h)).then zo (fun k _ h => .inr h)
       have lz7 := lt_of_block z7
       have lze := lt_of_block ze
       have lzp := lt_of_block zp
       have c70 := ab_ z7 0 rfl
       have HZ := h6_ z7 ze zp zs zt zoo
       clear hZ zo zt z7 ze zp zs zoo yp y7 yt ye ys yo HY hcur
       go_wp2_with fail
       go_at_call 76
       refine (HPR.out _ HZ.out.2.2.1 HZ.out.2.2.2.2.1 HZ.out.2.2.2.1 ((HV.out.1.mono (fun k _ h => .inr h)).trans HZ.out.2.2.2.2.2)).mono ?_
       rintro e w5 ⟨rfl, ho5, hs5, A, cA, ht5⟩
       have hT := HT2.out
       have v7 := ho5.kept HZ.out.1 (hT _ (by omega))
       have ve := ho5.kept HZ.out.2.1 (hT _ (Nat.le_refl _))
       have lv7 := lt_of_block v7
       have lve := lt_of_block ve
       have H5 := h5_ ho5 hs5 ht5 v7 ve
       clear ho5 hs5 ht5 v7 ve hT c70
       go_wp2_with (first
        | (refine wpList_load_row rfl 136 (.tmp 7) rfl b7 rfl 136 #[.int .i64 4, .int .i64 0] (0, 0) _ H5.out.2.2.2.1 Tryz.underlying136 rfl (by kernel_rfl) ?_)
        | ((with_reducible refine ad_ ?_); refine wpList_store_row rfl 136 _ _ rfl _ _ rfl rfl _ _ H5.out.2.2.2.2 (by kernel_rfl) (by rfl) (by simp [Value.oneCell']) ?_))
       obtain ⟨ho5, hs5, ht5, v7, ve⟩ := H5.out
       obtain ⟨_, _, cur5, hcur5⟩ := ah_ ht5
       have ho4 : Only (fun x => (S x ∨ x = gt) ∨ T x) w (w5.setRow w.heap.size #[.int .i64 4, .int .i64 0]) := ((((HV.out.1.mono (fun k _ h => .inl (.inr h))).trans (HZ.out.2.2.2.2.2.mono (fun k _ h => .inl h))).trans (ho5.mono (fun k _ h => .inr h)))).setRow w.heap.size _ (.inr (Nat.le_refl _))
       have hn4 : ¬ (fun x => x = w.heap.size) gt := by show ¬ gt = w.heap.size; omega
       have o1 : Only (· = w.heap.size) w5 (w5.setRow w.heap.size #[.int .i64 4, .int .i64 0]) := (Only.refl (· = w.heap.size) w5).setRow _ _ (.inl rfl)
       refine bodyPost_ret (da_ rfl _ _ w.heap.size 136 #[.int .i64 4, .int .i64 0] (0, 0) _ rfl (setRow_heap _ _ _ _ _ _ ve) Tryz.underlying136 rfl (by kernel_rfl)) rfl ⟨rfl, ho4, ?_, A, cA, ao_ ht5 o1 hn4⟩
       exact hs5.kept o1 (by
        rintro k hk rfl
        exact hs5.notCells ve (by decide) (by decide) (by decide) hk)
end Two
namespace Two
open Go.RowKit
attribute [local go_sem] ak_ af_
def r0 : Nat → Int := fun k => if k = 15 then 2048 else 0
def r1 : Nat → Int := upd r0 15 2040
def r2 : Nat → Int := upd r1 15 (r1 15 - 8)
theorem r1_15 : r1 15 = 2040 := by decide
theorem u2_ (c : Value) : dt_ 2048 c = thrG r0 0 c := by unfold dt_ thrG cpuL r0; rfl
def D1 (D : List UInt8) : List UInt8 := putL D 1016 (ct_ 0)
def D2 (D : List UInt8) : List UInt8 := putL (D1 D) 1008 (ct_ 536)
attribute [local irreducible] cpuL thrG
structure RunAt (p s b l gt ct gp cap b1 b2 gz : Nat) (D : List UInt8) (r : Nat → Int) (pc : Int) (calls : Value) (w : World) : Prop where
 head : w.heap[p]? = some (.cells (es_ s b l (.slice (some ⟨gt, 0, none⟩) 1 ct)).toArray 117 (0, 0))
 thread : w.ownsRow 0 133 23 (.slice (some ⟨gt, 0, none⟩) 1 ct) 1 (thrG r pc calls)
 space : SpaceAt w s (.slice (some ⟨gp, 0, none⟩) 2 cap) (twoP b1 b2 D)
 order : w.heap[gz]? = some (.cells #[.int .i64 0, .int .i64 0, .int .i64 0, .int .i64 0] 3 (0, 0))
 forms : Forms w
theorem RunAt.ne {p s b l gt ct gp cap b1 b2 gz : Nat} {D : List UInt8} {r : Nat → Int} {pc : Int} {calls : Value} {w : World} (h : RunAt p s b l gt ct gp cap b1 b2 gz D r pc calls w) : p ≠ gt ∧ p ≠ b2 ∧ gz ≠ gt ∧ gz ≠ b2 ∧ gt ≠ b2 ∧ b2 < w.heap.size ∧ gt < w.heap.size := by
 obtain ⟨_, lgt, cur, hcur⟩ := ah_ h.thread
 obtain ⟨b', b2', curb, hb3, hb4, hb5⟩ := h.space.bytes.2 (im_ b2 D) (by simp [twoP])
 exact ⟨am_ h.head hcur (by decide), am_ h.head hb3 (by decide), am_ h.order hcur (by decide), am_ h.order hb3 (by decide), am_ hcur hb3 (by decide), lt_of_block hb3, lgt⟩
theorem RunAt.step {p s b l gt ct gp cap b1 b2 gz : Nat} {D D' : List UInt8} {r r' : Nat → Int} {pc pc' : Int} {calls calls' : Value} {w w' : World} (h : RunAt p s b l gt ct gp cap b1 b2 gz D r pc calls w) (h2 : 0 < b2) (hg : 0 < gt) (ho : Only (fun x => x = b2 ∨ x = gt) w w')
 (hs : SpaceAt w' s (.slice (some ⟨gp, 0, none⟩) 2 cap) (twoP b1 b2 D')) (ht : w'.ownsRow 0 133 23 (.slice (some ⟨gt, 0, none⟩) 1 ct) 1 (thrG r' pc' calls')) : RunAt p s b l gt ct gp cap b1 b2 gz D' r' pc' calls' w' := by
 obtain ⟨n1, n2, n3, n4, n5, _, _⟩ := h.ne
 exact ⟨ho.kept h.head (by omega), ht, hs, ho.kept h.order (by omega), h.forms.only ho (by omega)⟩
theorem u3_ (p s b l gt ct gc cc gp cap b1 b2 gz : Nat) (D : List UInt8) (h2 : 0 < b2) (hg : 0 < gt) (w : World) (h : RunAt p s b l gt ct gp cap b1 b2 gz D r0 0 (.slice (some ⟨gc, 0, none⟩) 1 cc) w)
 (hc : w.ownsRow 0 3 1 (.slice (some ⟨gc, 0, none⟩) 1 cc) 1 [.int .i64 512]) :
 Calls Tryz.prog 39 #[.pointer (some ⟨p, 0, none⟩), .int .i64 0] w fun e w' => e = .returned (.agg #[.int .i64 4, .int .i64 0]) ∧ Only (fun x => x = b2 ∨ x = gt) w w' ∧ ∃ A c, RunAt p s b l gt ct gp cap b1 b2 gz (D1 D) r1 512 (.slice A 0 c) w' := by
 obtain ⟨n1, n2, n3, n4, n5, lb, lg⟩ := h.ne
 obtain ⟨_, _, cur, hcur⟩ := ah_ h.thread
 obtain ⟨_, _, curc, hcurc⟩ := ah_ hc
 have ngc : gc ≠ gt := am_ hcurc hcur (by decide)
 refine (u1_ p s b l gt ct r0 r0 0 0 (.slice (some ⟨gc, 0, none⟩) 1 cc) _ (twoP b1 b2 D) (twoP b1 b2 D) (fun _ => False) w h.head h.thread h.space (fun h => h) (fun h => h) (fun _ _ h => h)
  (fun w1 hs _ => (up_ s r0 w1).mono fun e w' ⟨he, hb⟩ => ⟨he, Only.of_below hb, hs.below hb⟩)
  (fun x => x = b2 ∨ x = gt) r1 512 ((twoP b1 b2 D).set 1 ((im_ b2 D).put 2040 (ct_ 0))) (fun k hk h => by have h' : k = b2 ∨ k = gt := h; omega)
  (fun w1 hp ht hs ho => xh_ p s b l gt ct gc cc gp cap b1 b2 D r0 (by decide) w1 hp ht (ao_ hc ho (by rintro (h | h); exact h; exact ngc h)) hs)).mono ?_
 rintro e w' ⟨rfl, ho, hs, A, c, ht⟩
 have ho' : Only (fun x => x = b2 ∨ x = gt) w w' := ho.mono (fun k _ hk => by rcases hk with (hk | hk) | hk; exact hk.elim; exact .inr hk; exact hk)
 exact ⟨rfl, ho', A, c, h.step h2 hg ho' hs ht⟩
theorem u4_ (p s b l gt ct gp cap b1 b2 gz : Nat) (D : List UInt8) (r : Nat → Int) (calls : Value) (k : Nat) (hk : k < twoI.length) (hop : twoI[k].op = 1) (h2 : 0 < b2) (hg : 0 < gt) (w : World) (h : RunAt p s b l gt ct gp cap b1 b2 gz D r (512 + 8 * k) calls w) :
 Calls Tryz.prog 39 #[.pointer (some ⟨p, 0, none⟩), .int .i64 0] w fun e w' => e = .returned (.agg #[.int .i64 0, .int .i64 0]) ∧ Only (fun x => x = b2 ∨ x = gt) w w' ∧ RunAt p s b l gt ct gp cap b1 b2 gz D r (512 + 8 * k + 8) calls w' := by
 obtain ⟨n1, n2, n3, n4, n5, lb, lg⟩ := h.ne
 refine (ne_ p s b l gt ct r r (512 + 8 * k) (512 + 8 * k + 8) calls _ (twoP b1 b2 D) (twoP b1 b2 D) (fun _ => False) w h.head h.thread h.space (fun h => h) (fun h => h) (fun _ _ h => h)
  (fun w1 hs ho => xa_ s gp cap b1 b2 D k hk hop r w1 (f7_ b1 b2 D) hs (h.forms.only ho (by rintro (h | h); exact h; omega)))).mono ?_
 rintro e w' ⟨rfl, ho, hs, ht⟩
 have ho' : Only (fun x => x = b2 ∨ x = gt) w w' := ho.mono (fun k _ hk => by rcases hk with hk | hk; exact hk.elim; exact .inr hk)
 exact ⟨rfl, ho', h.step h2 hg ho' hs ht⟩
theorem xi_ (p s b l gt ct gp cap b1 b2 gz : Nat) (D : List UInt8) (calls : Value) (h2 : 0 < b2) (hg : 0 < gt) (w : World) (h : RunAt p s b l gt ct gp cap b1 b2 gz D r1 528 calls w) :
 Calls Tryz.prog 39 #[.pointer (some ⟨p, 0, none⟩), .int .i64 0] w fun e w' => e = .returned (.agg #[.int .i64 0, .int .i64 0]) ∧ Only (fun x => x = b2 ∨ x = gt) w w' ∧ RunAt p s b l gt ct gp cap b1 b2 gz (putL D 1008 (ct_ 536)) r2 576 calls w' := by
 obtain ⟨n1, n2, n3, n4, n5, lb, lg⟩ := h.ne
 refine (ne_ p s b l gt ct r1 r2 528 576 calls _ (twoP b1 b2 D) ((twoP b1 b2 D).set 1 ((im_ b2 D).put (r1 15 - 8) (ct_ 536))) (fun x => x = b2) w h.head h.thread h.space n2 n5 (fun k hk h => by have h' : k = b2 := h; omega)
  (fun w1 hs ho => uu_ s gp cap b1 b2 D r1 r1_15 w1 (f7_ b1 b2 D) hs (h.forms.only ho (by show ¬ (0 = b2 ∨ 0 = gt); omega)) (by have := ho.size; omega))).mono ?_
 rintro e w' ⟨rfl, ho, hs, ht⟩
 rw [r1_15] at hs
 exact ⟨rfl, ho, h.step h2 hg ho hs ht⟩
theorem prun (p s b l gt ct gc cc gp cap b1 b2 gz : Nat) (D : List UInt8) (h2 : 0 < b2) (hg : 0 < gt) (w : World) (h : RunAt p s b l gt ct gp cap b1 b2 gz D r0 0 (.slice (some ⟨gc, 0, none⟩) 1 cc) w)
 (hc : w.ownsRow 0 3 1 (.slice (some ⟨gc, 0, none⟩) 1 cc) 1 [.int .i64 512]) :
 Calls Tryz.prog 11 #[.pointer (some ⟨p, 0, none⟩), .slice (some ⟨gz, 0, none⟩) 4 4] w fun e w' => e = .returned (.tuple #[]) ∧ Only (fun x => x = b2 ∨ x = gt) w w' ∧ ∃ A c, RunAt p s b l gt ct gp cap b1 b2 gz (D2 D) r2 576 (.slice A 0 c) w' := by
 have z0 := ab_ h.order 0 rfl
 have HH := h2_ h hc
 clear h hc
 go_enter Tryz.func11, Tryz.ntmps11
 go_wp2
 refine wp_loop_rounds 5 ?_
 rw [rounds_succ]
 go_wp2_with fail
 refine (u3_ p s b l gt ct gc cc gp cap b1 b2 gz D h2 hg w HH.out.1 HH.out.2).mono ?_
 rintro e w1 ⟨rfl, ho1, A, c, h1⟩
 have z1 := ab_ h1.order 1 rfl
 have H1 := h2_ ho1 h1
 clear ho1 h1 z0
 go_wp2
 rw [rounds_succ]
 go_wp2_with fail
 refine (u4_ p s b l gt ct gp cap b1 b2 gz (D1 D) r1 (.slice A 0 c) 0 (by decide) (by decide) h2 hg w1 H1.out.2).mono ?_
 rintro e w2 ⟨rfl, ho2, h2'⟩
 have z2 := ab_ h2'.order 2 rfl
 have H2 := h2_ (H1.out.1.trans ho2) h2'
 clear ho2 h2' z1 H1
 go_wp2
 rw [rounds_succ]
 go_wp2_with fail
 refine (u4_ p s b l gt ct gp cap b1 b2 gz (D1 D) r1 (.slice A 0 c) 1 (by decide) (by decide) h2 hg w2 H2.out.2).mono ?_
 rintro e w3 ⟨rfl, ho3, h3⟩
 have z3 := ab_ h3.order 3 rfl
 have H3 := h2_ (H2.out.1.trans ho3) h3
 clear ho3 h3 z2 H2
 go_wp2
 rw [rounds_succ]
 go_wp2_with fail
 refine (xi_ p s b l gt ct gp cap b1 b2 gz (D1 D) (.slice A 0 c) h2 hg w3 H3.out.2).mono ?_
 rintro e w4 ⟨rfl, ho4, h4⟩
 have H4 := h2_ (H3.out.1.trans ho4) h4
 clear ho4 h4 z3 H3
 go_wp2
 rw [rounds_succ]
 go_wp2
 go_end0
 exact ⟨rfl, H4.out.1, A, c, H4.out.2⟩
end Two
end Go.Proofs.YtacaejpamidkcaaGreatDoor
