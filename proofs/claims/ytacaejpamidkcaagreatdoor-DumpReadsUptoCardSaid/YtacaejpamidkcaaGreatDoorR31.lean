/- image.coder.image of the example image. The digest of a string, as a function of its bytes. No program in sight. digest: a lane turned. -/
import Derived.Laws.EntriesVeiled
import Derived.Test.YtacaejpamidkcaaGreatDoorR30
set_option linter.unusedVariables false
set_option linter.unusedSimpArgs false
set_option maxRecDepth 100000
set_option maxHeartbeats 4000000
namespace Go.Proofs.YtacaejpamidkcaaGreatDoor
section
open Go.RowKit Wire
attribute [local go_sem] ak_ af_
theorem ju_ (S : ByteArray) : Value.string S = strB S.data.toList := by unfold strB; simp
theorem fa_ (n : Int) (h : I64 n) : (intL n).length ≤ 10 := b0_ (by have := h.1; have := h.2; unfold zig; split <;> omega)
def imgL (BI : Two.IB) : List UInt8 := ([Two.labS.data.toList].map bm_).flatten ++ intL 0 ++ ([(256 : Int), 256, 256].map intL).flatten ++ ([BI.bytes.data.toList, ([] : List UInt8)].map bm_).flatten ++ ([(0 : Int)].map intL).flatten ++ numL 0 ++ numL 0 ++ numL 0 ++ numL 0 ++ numL 0 ++ numL 0 ++ numL 0 ++ numL 0 ++ ([(0 : Int)].map intL).flatten ++ numL 0 ++ numL 0 ++ my_ ++ numL 0
theorem cimage (BI : Two.IB) (B c ib : Nat) (w : World) (h : Cod B c [] w) (hB : B ≤ w.heap.size) (hib : w.heap[ib]? = some (.cells (Two.aa_ BI) 52 (0, 0))) (hibc : ib ≠ c) (hd : Two.a5_ w BI.gd) (hdc : BI.gd ≠ c) (hbs : BI.bytes.size ≤ 1000000) :
 Calls Tryz.prog 183 #[.pointer (some ⟨c, 0, none⟩), .pointer (some ⟨ib, 0, none⟩)] w fun e w' => e = .returned (.tuple #[]) ∧ Cod B c (imgL BI) w' ∧ Below B w w' ∧ an_ c w w' := by
 have lc := a9_.lt h
 have hh : ∀ j v, (Two.aa_ BI)[j]? = some v → Held c w (ib, j) v := fun j v hv => ⟨_, _, hib, hibc, by decide, hv⟩
 have HG := h4_ h hh hd hbs
 have l0 := bd_
 have lab9 : (bm_ Two.labS.data.toList).length ≤ 100 := by
  have h1 := b0_ (m := Two.labS.data.toList.length) (by decide)
  have h2 : Two.labS.data.toList.length ≤ 50 := by decide
  unfold bm_; rw [List.length_append]; omega
 have labb : (bm_ BI.bytes.data.toList).length ≤ 1000100 := by
  have h3 : BI.bytes.data.toList.length = BI.bytes.size := rfl
  have h1 := b0_ (m := BI.bytes.data.toList.length) (by omega)
  unfold bm_; rw [List.length_append]; omega
 have labn : (bm_ []).length ≤ 100 := by
  have h1 := b0_ (m := ([] : List UInt8).length) (by decide)
  unfold bm_; rw [List.length_append]; simp at *; omega
 have i0 := fa_ 0 ⟨by decide, by decide⟩
 have i256 := fa_ 256 ⟨by decide, by decide⟩
 have hinf : my_.length ≤ 1000 := by
  have e1 : (numL 1).length = 1 := by rw [cj_ (by decide)]; rfl
  have e80 := fa_ 80 ⟨by decide, by decide⟩
  unfold my_
  simp [l0, e1]
  omega
 have HL := h7_ l0 lab9 labb labn i0 i256 hinf
 clear h hib hd hbs hh l0 lab9 labb labn i0 i256 hinf
 go_enter Tryz.func183, Tryz.ntmps183
 go_upto_region 3 with fail
 refine ac_ fun v2 hW => ?_
 have hb0 : Below w.heap.size w v2 := by rw [← hW]; go_grown
 have hq0 : v2.heap[w.heap.size]? = some (.cells #[.pointer (some ⟨c, 0, none⟩)] 433 (0, 0)) := by rw [← hW]; exact ae_ (heap_alloc_new _ _)
 have hp0 : v2.heap[w.heap.size + 1]? = some (.cells #[.func (.func 303) #[] #[.pointer (some ⟨w.heap.size, 0, none⟩)]] 438 (0, 0)) := by
  have h := heap_alloc_new (w.alloc (Obj.cells #[Value.pointer (some ⟨c, 0, none⟩)] 433)) (Obj.cells #[Value.func (.func 303) #[] #[.pointer (some ⟨w.heap.size, 0, none⟩)]] 438)
  rw [← hW]
  simpa using h
 obtain ⟨p5, hp⟩ : ∃ p, p = w.heap.size + 1 := ⟨_, rfl⟩
 rw [← hp] at hp0 ⊢
 obtain ⟨q, hq⟩ : ∃ q, q = w.heap.size := ⟨_, rfl⟩
 have hqc : q ≠ c := by omega
 have hpc : p5 ≠ c := by omega
 rw [← hq] at hq0 hp0 ⊢
 have hq1 : Held c v2 (q, 0) (.pointer (some ⟨c, 0, none⟩)) := ⟨_, _, hq0, hqc, by decide, rfl⟩
 have hp1 : Held c v2 (p5, 0) (.func (.func 303) #[] #[.pointer (some ⟨q, 0, none⟩)]) := ⟨_, _, hp0, hpc, by decide, rfl⟩
 have HQ := h2_ hq1 hp1
 have sz0 := hb0.size
 obtain ⟨a2, ha2⟩ : ∃ a : List UInt8, a = [] := ⟨_, rfl⟩
 have ln2 : a2.length ≤ 10000 := by rw [ha2]; simp
 have h0 : Cod B c a2 v2 ∧ Below B w v2 ∧ an_ c v2 v2 := ⟨by rw [ha2]; exact a9_.below HG.out.1 hb0, hb0.mono hB, an_.refl _ _⟩
 have H2 := h1_ h0
 have HA2 := h1_ ha2
 have HK0 := h1_ (an_.below (b := c) hb0)
 have HSQ := h2_ hq hp
 have yq := hq1.cell
 have yp := hp1.cell
 have lq : q < v2.heap.size := lt_of_block hq0
 have lp : p5 < v2.heap.size := lt_of_block hp0
 clear hW hb0 hq0 hp0 hq1 hp1 h0 hq hp ha2
 refine wq_ 5 [] (fun _ => False) [.pt c 0, .pt ib 0, .pt ib 0, .pt ib 0, .more (g8_ 436 c 1 [(ib, 0)]) (fun v w w' ho h => h.only v w w' ho)] (fun _ _ => True) (by kernel_rfl) (by kernel_rfl) (trivial) ?_ ?_
 · simp only [a4_, List.take]
   refine ⟨?_, ?_, ?_, ?_, ?_, trivial⟩
   all_goals intro k a wr ho hJ hk hr hf hd
   · have h2 : zp_ a 2 q 0 := (hf 2).trans rfl
     have hc := (World.cell?_of_block (ho.block q lq id)).trans yq
     exact dp_ hJ (by simp [execOp, h2, hc, go_sem])
   · have h1 : zp_ a 1 ib 0 := (hf 1).trans rfl
     exact dp_ hJ (by simp [execOp, h1, go_sem])
   · have h9 : z_ a 9 _ := hd 1
     exact dp_ hJ (by simp [execOp, h9, go_sem])
   · have h10 : z_ a 10 _ := hd 2
     exact dp_ hJ (by simp [execOp, h10, go_sem])
   · have h11 : z_ a 11 _ := hd 3
     exact bc_ (v := .slice (some ⟨wr.heap.size, 0, none⟩) 1 1) (w' := wr.alloc (.cells (gr_ [(ib, 0)]).toArray 436)) (by simp [execOp, h11, go_sem, gr_]) ⟨⟨wr.heap.size, rfl, by have := ho.size; have := H2.out.2.1.size; omega, heap_alloc_new _ _⟩, (Only.refl _ _).alloc _, hJ⟩
 · intro fv x3 hox hj hs
   have q12 := hs 4 (by decide)
   rw [seqv hs [8, 9, 10, 11, 12] (by kernel_rfl)]
   simp only [actV, Act.put, List.drop, List.length, List.setIfInBounds_toArray, List.set_cons_zero, List.set_cons_succ]
   clear hs
   have hbel := ax_ hox
   have szx := hbel.size
   have szv := H2.out.2.1.size
   have hkx : an_ c w x3 := HK0.out.trans (H2.out.2.2.trans (an_.below hbel))
   have hcx : Cod B c a2 x3 := a9_.below H2.out.1 hbel
   have HX := h3_ hbel hkx hcx
   clear hbel hkx hcx hox
   obtain ⟨g, hg, hgc, hrow⟩ : g8_ 436 c 1 [(ib, 0)] (fv 12) _ := q12
   rw [hg]
   clear hg
   go_wp2_with fail
   refine (ctexts B c g a2 [(ib, 0)] ([Two.labS.data.toList] : List (List UInt8)) rfl (by simp) _ HX.out.2.2 (by omega) hrow hgc ?_ ?_ (by obtain ⟨l0, lab9, labb, labn, i0, i256, hinf⟩ := HL.out; simp only [List.map_cons, List.map_nil, List.flatten_cons, List.flatten_nil, List.append_nil, List.length_append, List.length_nil, List.length_cons]; omega)).mono ?_
   · intro i p x h1 h2
     match i with
     | 0 => cases h1; cases h2; rw [← ju_ Two.labS]; exact (HG.out.2.1 0 (.string Two.labS) rfl).keep HX.out.2.1
     | i + 1 => simp at h1
   · intro i hi
     match i, hi with
     | 0, _ => exact (by decide : Two.labS.data.toList.length ≤ 1099511627776)
     | i + 1, hi => simp at hi <;> omega
   rintro e v3 ⟨rfl, h1, h2, h3⟩
   obtain ⟨a3, ha⟩ : ∃ a, a = a2 ++ ([Two.labS.data.toList].map bm_).flatten := ⟨_, rfl⟩
   have h1' : Cod B c a3 v3 := by rw [ha]; exact h1
   have ln3 : a3.length ≤ 2010000 := by rw [ha]; obtain ⟨l0, lab9, labb, labn, i0, i256, hinf⟩ := HL.out; simp only [List.map_cons, List.map_nil, List.flatten_cons, List.flatten_nil, List.append_nil, List.length_append, List.length_nil, List.length_cons]; omega
   have HA3 := h1_ ha
   have H3 := h1_ (show Cod B c a3 v3 ∧ Below B w v3 ∧ an_ c v2 v3 from ⟨h1', H2.out.2.1.trans ((HX.out.1.mono (by omega)).trans h2), H2.out.2.2.trans ((an_.below HX.out.1).trans h3)⟩)
   clear yq lq yp lp
   have yq := (HQ.out.1.keep H3.out.2.2).cell
   have lq : q < v3.heap.size := World.block_lt_of_cell? _ _ yq
   have yp := (HQ.out.2.keep H3.out.2.2).cell
   have lp : p5 < v3.heap.size := World.block_lt_of_cell? _ _ yp
   clear h1 h1' h2 h3 HX szx szv ha ln2
   go_upto_region 4 with fail
   refine wq_ 4 [] (fun _ => False) [.pt c 0, .pt ib 0, .pt ib 0, .pt ib 1] (fun _ _ => True) (by kernel_rfl) (by kernel_rfl) (trivial) ?_ ?_
   · simp only [a4_, List.take]
     refine ⟨?_, ?_, ?_, ?_, trivial⟩
     all_goals intro k a wr ho hJ hk hr hf hd
     · have h2 : zp_ a 2 q 0 := (hf 2).trans rfl
       have hc := (World.cell?_of_block (ho.block q lq id)).trans yq
       exact dp_ hJ (by simp [execOp, h2, hc, go_sem])
     · have h1 : zp_ a 1 ib 0 := (hf 1).trans rfl
       exact dp_ hJ (by simp [execOp, h1, go_sem])
     · have h15 : z_ a 15 _ := hd 1
       exact dp_ hJ (by simp [execOp, h15, go_sem])
     · have h16 : z_ a 16 _ := hd 2
       exact dp_ hJ (by simp [execOp, h16, go_sem])
   · intro fv x4 hox hj hs
     rw [seqv hs [14, 15, 16, 17] (by kernel_rfl)]
     simp only [actV, Act.put, List.drop, List.length, List.setIfInBounds_toArray, List.set_cons_zero, List.set_cons_succ]
     clear hs
     have hbel := ax_ hox
     have szx := hbel.size
     have szv := H3.out.2.1.size
     have hkx : an_ c w x4 := HK0.out.trans (H3.out.2.2.trans (an_.below hbel))
     have hcx : Cod B c a3 x4 := a9_.below H3.out.1 hbel
     have HX := h3_ hbel hkx hcx
     clear hbel hkx hcx hox
     go_wp2_with fail
     refine (cbool B c a3 ib 1 false _ HX.out.2.2 (by omega) ((HG.out.2.1 1 (.bool false) rfl).keep HX.out.2.1) (by omega)).mono ?_
     rintro e v4 ⟨rfl, h1, h2, h3⟩
     obtain ⟨a4, ha⟩ : ∃ a, a = a3 ++ intL 0 := ⟨_, rfl⟩
     have h1' : Cod B c a4 v4 := by rw [ha]; exact h1
     have ln4 : a4.length ≤ 4010000 := by rw [ha]; obtain ⟨l0, lab9, labb, labn, i0, i256, hinf⟩ := HL.out; simp only [List.map_cons, List.map_nil, List.flatten_cons, List.flatten_nil, List.append_nil, List.length_append, List.length_nil, List.length_cons]; omega
     have HA4 := h1_ ha
     have H4 := h1_ (show Cod B c a4 v4 ∧ Below B w v4 ∧ an_ c v2 v4 from ⟨h1', H3.out.2.1.trans ((HX.out.1.mono (by omega)).trans h2), H3.out.2.2.trans ((an_.below HX.out.1).trans h3)⟩)
     clear yq lq yp lp
     have yq := (HQ.out.1.keep H4.out.2.2).cell
     have lq : q < v4.heap.size := World.block_lt_of_cell? _ _ yq
     have yp := (HQ.out.2.keep H4.out.2.2).cell
     have lp : p5 < v4.heap.size := World.block_lt_of_cell? _ _ yp
     clear h1 h1' h2 h3 HX szx szv ha ln3
     go_upto_region 5 with fail
     refine wq_ 11 [] (fun _ => False) [.pt c 0, .pt ib 0, .pt ib 0, .pt ib 2, .pt ib 0, .pt ib 0, .pt ib 3, .pt ib 0, .pt ib 0, .pt ib 4, .more (g8_ 215 c 3 [(ib, 2), (ib, 3), (ib, 4)]) (fun v w w' ho h => h.only v w w' ho)] (fun _ _ => True) (by kernel_rfl) (by kernel_rfl) (trivial) ?_ ?_
     · simp only [a4_, List.take]
       refine ⟨?_, ?_, ?_, ?_, ?_, ?_, ?_, ?_, ?_, ?_, ?_, trivial⟩
       all_goals intro k a wr ho hJ hk hr hf hd
       · have h2 : zp_ a 2 q 0 := (hf 2).trans rfl
         have hc := (World.cell?_of_block (ho.block q lq id)).trans yq
         exact dp_ hJ (by simp [execOp, h2, hc, go_sem])
       · have h1 : zp_ a 1 ib 0 := (hf 1).trans rfl
         exact dp_ hJ (by simp [execOp, h1, go_sem])
       · have h20 : z_ a 20 _ := hd 1
         exact dp_ hJ (by simp [execOp, h20, go_sem])
       · have h21 : z_ a 21 _ := hd 2
         exact dp_ hJ (by simp [execOp, h21, go_sem])
       · have h1 : zp_ a 1 ib 0 := (hf 1).trans rfl
         exact dp_ hJ (by simp [execOp, h1, go_sem])
       · have h23 : z_ a 23 _ := hd 4
         exact dp_ hJ (by simp [execOp, h23, go_sem])
       · have h24 : z_ a 24 _ := hd 5
         exact dp_ hJ (by simp [execOp, h24, go_sem])
       · have h1 : zp_ a 1 ib 0 := (hf 1).trans rfl
         exact dp_ hJ (by simp [execOp, h1, go_sem])
       · have h26 : z_ a 26 _ := hd 7
         exact dp_ hJ (by simp [execOp, h26, go_sem])
       · have h27 : z_ a 27 _ := hd 8
         exact dp_ hJ (by simp [execOp, h27, go_sem])
       · have h22 : z_ a 22 _ := hd 3
         have h25 : z_ a 25 _ := hd 6
         have h28 : z_ a 28 _ := hd 9
         exact bc_ (v := .slice (some ⟨wr.heap.size, 0, none⟩) 3 3) (w' := wr.alloc (.cells (gr_ [(ib, 2), (ib, 3), (ib, 4)]).toArray 215)) (by simp [execOp, h22, h25, h28, go_sem, gr_]) ⟨⟨wr.heap.size, rfl, by have := ho.size; have := H4.out.2.1.size; omega, heap_alloc_new _ _⟩, (Only.refl _ _).alloc _, hJ⟩
     · intro fv x5 hox hj hs
       have q29 := hs 10 (by decide)
       rw [seqv hs [19, 20, 21, 22, 23, 24, 25, 26, 27, 28, 29] (by kernel_rfl)]
       simp only [actV, Act.put, List.drop, List.length, List.setIfInBounds_toArray, List.set_cons_zero, List.set_cons_succ]
       clear hs
       have hbel := ax_ hox
       have szx := hbel.size
       have szv := H4.out.2.1.size
       have hkx : an_ c w x5 := HK0.out.trans (H4.out.2.2.trans (an_.below hbel))
       have hcx : Cod B c a4 x5 := a9_.below H4.out.1 hbel
       have HX := h3_ hbel hkx hcx
       clear hbel hkx hcx hox
       obtain ⟨g, hg, hgc, hrow⟩ : g8_ 215 c 3 [(ib, 2), (ib, 3), (ib, 4)] (fv 29) _ := q29
       rw [hg]
       clear hg
       go_wp2_with fail
       refine (cints B c g a4 [(ib, 2), (ib, 3), (ib, 4)] ([256, 256, 256] : List (Int)) rfl (by simp) _ HX.out.2.2 (by omega) hrow hgc ?_ ?_ (by obtain ⟨l0, lab9, labb, labn, i0, i256, hinf⟩ := HL.out; simp only [List.map_cons, List.map_nil, List.flatten_cons, List.flatten_nil, List.append_nil, List.length_append, List.length_nil, List.length_cons]; omega)).mono ?_
       · intro i p x h1 h2
         match i with
         | 0 => cases h1; cases h2; exact (HG.out.2.1 2 (.int .i64 256) rfl).keep HX.out.2.1
         | 1 => cases h1; cases h2; exact (HG.out.2.1 3 (.int .i64 256) rfl).keep HX.out.2.1
         | 2 => cases h1; cases h2; exact (HG.out.2.1 4 (.int .i64 256) rfl).keep HX.out.2.1
         | i + 3 => simp at h1
       · intro i hi
         match i, hi with
         | 0, _ => exact (⟨by decide, by decide⟩ : I64 256)
         | 1, _ => exact (⟨by decide, by decide⟩ : I64 256)
         | 2, _ => exact (⟨by decide, by decide⟩ : I64 256)
         | i + 3, hi => simp at hi <;> omega
       rintro e v5 ⟨rfl, h1, h2, h3⟩
       obtain ⟨a5, ha⟩ : ∃ a, a = a4 ++ ([(256 : Int), 256, 256].map intL).flatten := ⟨_, rfl⟩
       have h1' : Cod B c a5 v5 := by rw [ha]; exact h1
       have ln5 : a5.length ≤ 6010000 := by rw [ha]; obtain ⟨l0, lab9, labb, labn, i0, i256, hinf⟩ := HL.out; simp only [List.map_cons, List.map_nil, List.flatten_cons, List.flatten_nil, List.append_nil, List.length_append, List.length_nil, List.length_cons]; omega
       have HA5 := h1_ ha
       have H5 := h1_ (show Cod B c a5 v5 ∧ Below B w v5 ∧ an_ c v2 v5 from ⟨h1', H4.out.2.1.trans ((HX.out.1.mono (by omega)).trans h2), H4.out.2.2.trans ((an_.below HX.out.1).trans h3)⟩)
       clear yq lq yp lp
       have yq := (HQ.out.1.keep H5.out.2.2).cell
       have lq : q < v5.heap.size := World.block_lt_of_cell? _ _ yq
       have yp := (HQ.out.2.keep H5.out.2.2).cell
       have lp : p5 < v5.heap.size := World.block_lt_of_cell? _ _ yp
       clear h1 h1' h2 h3 HX szx szv ha ln4
       go_upto_region 6 with fail
       refine wq_ 8 [] (fun _ => False) [.pt c 0, .pt ib 0, .pt ib 0, .pt ib 5, .pt ib 0, .pt ib 0, .pt ib 6, .more (g8_ 436 c 2 [(ib, 5), (ib, 6)]) (fun v w w' ho h => h.only v w w' ho)] (fun _ _ => True) (by kernel_rfl) (by kernel_rfl) (trivial) ?_ ?_
       · simp only [a4_, List.take]
         refine ⟨?_, ?_, ?_, ?_, ?_, ?_, ?_, ?_, trivial⟩
         all_goals intro k a wr ho hJ hk hr hf hd
         · have h2 : zp_ a 2 q 0 := (hf 2).trans rfl
           have hc := (World.cell?_of_block (ho.block q lq id)).trans yq
           exact dp_ hJ (by simp [execOp, h2, hc, go_sem])
         · have h1 : zp_ a 1 ib 0 := (hf 1).trans rfl
           exact dp_ hJ (by simp [execOp, h1, go_sem])
         · have h32 : z_ a 32 _ := hd 1
           exact dp_ hJ (by simp [execOp, h32, go_sem])
         · have h33 : z_ a 33 _ := hd 2
           exact dp_ hJ (by simp [execOp, h33, go_sem])
         · have h1 : zp_ a 1 ib 0 := (hf 1).trans rfl
           exact dp_ hJ (by simp [execOp, h1, go_sem])
         · have h35 : z_ a 35 _ := hd 4
           exact dp_ hJ (by simp [execOp, h35, go_sem])
         · have h36 : z_ a 36 _ := hd 5
           exact dp_ hJ (by simp [execOp, h36, go_sem])
         · have h34 : z_ a 34 _ := hd 3
           have h37 : z_ a 37 _ := hd 6
           exact bc_ (v := .slice (some ⟨wr.heap.size, 0, none⟩) 2 2) (w' := wr.alloc (.cells (gr_ [(ib, 5), (ib, 6)]).toArray 436)) (by simp [execOp, h34, h37, go_sem, gr_]) ⟨⟨wr.heap.size, rfl, by have := ho.size; have := H5.out.2.1.size; omega, heap_alloc_new _ _⟩, (Only.refl _ _).alloc _, hJ⟩
       · intro fv x6 hox hj hs
         have q38 := hs 7 (by decide)
         rw [seqv hs [31, 32, 33, 34, 35, 36, 37, 38] (by kernel_rfl)]
         simp only [actV, Act.put, List.drop, List.length, List.setIfInBounds_toArray, List.set_cons_zero, List.set_cons_succ]
         clear hs
         have hbel := ax_ hox
         have szx := hbel.size
         have szv := H5.out.2.1.size
         have hkx : an_ c w x6 := HK0.out.trans (H5.out.2.2.trans (an_.below hbel))
         have hcx : Cod B c a5 x6 := a9_.below H5.out.1 hbel
         have HX := h3_ hbel hkx hcx
         clear hbel hkx hcx hox
         obtain ⟨g, hg, hgc, hrow⟩ : g8_ 436 c 2 [(ib, 5), (ib, 6)] (fv 38) _ := q38
         rw [hg]
         clear hg
         go_wp2_with fail
         refine (ctexts B c g a5 [(ib, 5), (ib, 6)] ([BI.bytes.data.toList, ([] : List UInt8)] : List (List UInt8)) rfl (by simp) _ HX.out.2.2 (by omega) hrow hgc ?_ ?_ (by obtain ⟨l0, lab9, labb, labn, i0, i256, hinf⟩ := HL.out; simp only [List.map_cons, List.map_nil, List.flatten_cons, List.flatten_nil, List.append_nil, List.length_append, List.length_nil, List.length_cons]; omega)).mono ?_
         · intro i p x h1 h2
           match i with
           | 0 => cases h1; cases h2; rw [← ju_ BI.bytes]; exact (HG.out.2.1 5 (.string BI.bytes) rfl).keep HX.out.2.1
           | 1 => cases h1; cases h2; exact (HG.out.2.1 6 (strB []) rfl).keep HX.out.2.1
           | i + 2 => simp at h1
         · intro i hi
           match i, hi with
           | 0, _ => exact (by have := HG.out.2.2.2; have h3 : BI.bytes.data.toList.length = BI.bytes.size := rfl; omega : BI.bytes.data.toList.length ≤ 1099511627776)
           | 1, _ => exact (by decide : ([] : List UInt8).length ≤ 1099511627776)
           | i + 2, hi => simp at hi <;> omega
         rintro e v6 ⟨rfl, h1, h2, h3⟩
         obtain ⟨a6, ha⟩ : ∃ a, a = a5 ++ ([BI.bytes.data.toList, ([] : List UInt8)].map bm_).flatten := ⟨_, rfl⟩
         have h1' : Cod B c a6 v6 := by rw [ha]; exact h1
         have ln6 : a6.length ≤ 8010000 := by rw [ha]; obtain ⟨l0, lab9, labb, labn, i0, i256, hinf⟩ := HL.out; simp only [List.map_cons, List.map_nil, List.flatten_cons, List.flatten_nil, List.append_nil, List.length_append, List.length_nil, List.length_cons]; omega
         have HA6 := h1_ ha
         have H6 := h1_ (show Cod B c a6 v6 ∧ Below B w v6 ∧ an_ c v2 v6 from ⟨h1', H5.out.2.1.trans ((HX.out.1.mono (by omega)).trans h2), H5.out.2.2.trans ((an_.below HX.out.1).trans h3)⟩)
         clear yq lq yp lp
         have yq := (HQ.out.1.keep H6.out.2.2).cell
         have lq : q < v6.heap.size := World.block_lt_of_cell? _ _ yq
         have yp := (HQ.out.2.keep H6.out.2.2).cell
         have lp : p5 < v6.heap.size := World.block_lt_of_cell? _ _ yp
         clear h1 h1' h2 h3 HX szx szv ha ln5
         go_upto_region 7 with fail
         refine wq_ 5 [] (fun _ => False) [.pt c 0, .pt ib 0, .pt ib 0, .pt ib 7, .more (g8_ 215 c 1 [(ib, 7)]) (fun v w w' ho h => h.only v w w' ho)] (fun _ _ => True) (by kernel_rfl) (by kernel_rfl) (trivial) ?_ ?_
         · simp only [a4_, List.take]
           refine ⟨?_, ?_, ?_, ?_, ?_, trivial⟩
           all_goals intro k a wr ho hJ hk hr hf hd
           · have h2 : zp_ a 2 q 0 := (hf 2).trans rfl
             have hc := (World.cell?_of_block (ho.block q lq id)).trans yq
             exact dp_ hJ (by simp [execOp, h2, hc, go_sem])
           · have h1 : zp_ a 1 ib 0 := (hf 1).trans rfl
             exact dp_ hJ (by simp [execOp, h1, go_sem])
           · have h41 : z_ a 41 _ := hd 1
             exact dp_ hJ (by simp [execOp, h41, go_sem])
           · have h42 : z_ a 42 _ := hd 2
             exact dp_ hJ (by simp [execOp, h42, go_sem])
           · have h43 : z_ a 43 _ := hd 3
             exact bc_ (v := .slice (some ⟨wr.heap.size, 0, none⟩) 1 1) (w' := wr.alloc (.cells (gr_ [(ib, 7)]).toArray 215)) (by simp [execOp, h43, go_sem, gr_]) ⟨⟨wr.heap.size, rfl, by have := ho.size; have := H6.out.2.1.size; omega, heap_alloc_new _ _⟩, (Only.refl _ _).alloc _, hJ⟩
         · intro fv x7 hox hj hs
           have q44 := hs 4 (by decide)
           rw [seqv hs [40, 41, 42, 43, 44] (by kernel_rfl)]
           simp only [actV, Act.put, List.drop, List.length, List.setIfInBounds_toArray, List.set_cons_zero, List.set_cons_succ]
           clear hs
           have hbel := ax_ hox
           have szx := hbel.size
           have szv := H6.out.2.1.size
           have hkx : an_ c w x7 := HK0.out.trans (H6.out.2.2.trans (an_.below hbel))
           have hcx : Cod B c a6 x7 := a9_.below H6.out.1 hbel
           have HX := h3_ hbel hkx hcx
           clear hbel hkx hcx hox
           obtain ⟨g, hg, hgc, hrow⟩ : g8_ 215 c 1 [(ib, 7)] (fv 44) _ := q44
           rw [hg]
           clear hg
           go_wp2_with fail
           refine (cints B c g a6 [(ib, 7)] ([0] : List (Int)) rfl (by simp) _ HX.out.2.2 (by omega) hrow hgc ?_ ?_ (by obtain ⟨l0, lab9, labb, labn, i0, i256, hinf⟩ := HL.out; simp only [List.map_cons, List.map_nil, List.flatten_cons, List.flatten_nil, List.append_nil, List.length_append, List.length_nil, List.length_cons]; omega)).mono ?_
           · intro i p x h1 h2
             match i with
             | 0 => cases h1; cases h2; exact (HG.out.2.1 7 (.int .i64 0) rfl).keep HX.out.2.1
             | i + 1 => simp at h1
           · intro i hi
             match i, hi with
             | 0, _ => exact (⟨by decide, by decide⟩ : I64 0)
             | i + 1, hi => simp at hi <;> omega
           rintro e v7 ⟨rfl, h1, h2, h3⟩
           obtain ⟨a7, ha⟩ : ∃ a, a = a6 ++ ([(0 : Int)].map intL).flatten := ⟨_, rfl⟩
           have h1' : Cod B c a7 v7 := by rw [ha]; exact h1
           have ln7 : a7.length ≤ 10010000 := by rw [ha]; obtain ⟨l0, lab9, labb, labn, i0, i256, hinf⟩ := HL.out; simp only [List.map_cons, List.map_nil, List.flatten_cons, List.flatten_nil, List.append_nil, List.length_append, List.length_nil, List.length_cons]; omega
           have HA7 := h1_ ha
           have H7 := h1_ (show Cod B c a7 v7 ∧ Below B w v7 ∧ an_ c v2 v7 from ⟨h1', H6.out.2.1.trans ((HX.out.1.mono (by omega)).trans h2), H6.out.2.2.trans ((an_.below HX.out.1).trans h3)⟩)
           clear yq lq yp lp
           have yq := (HQ.out.1.keep H7.out.2.2).cell
           have lq : q < v7.heap.size := World.block_lt_of_cell? _ _ yq
           have yp := (HQ.out.2.keep H7.out.2.2).cell
           have lp : p5 < v7.heap.size := World.block_lt_of_cell? _ _ yp
           clear h1 h1' h2 h3 HX szx szv ha ln6
           go_upto_region 8 with fail
           refine wq_ 5 [] (fun _ => False) [.pt c 0, .pt ib 0, .pt ib 0, .pt ib 8, .val (.func (.func 307) #[] #[.pointer (some ⟨q, 0, none⟩)])] (fun _ _ => True) (by kernel_rfl) (by kernel_rfl) (trivial) ?_ ?_
           · simp only [a4_, List.take]
             refine ⟨?_, ?_, ?_, ?_, ?_, trivial⟩
             all_goals intro k a wr ho hJ hk hr hf hd
             · have h2 : zp_ a 2 q 0 := (hf 2).trans rfl
               have hc := (World.cell?_of_block (ho.block q lq id)).trans yq
               exact dp_ hJ (by simp [execOp, h2, hc, go_sem])
             · have h1 : zp_ a 1 ib 0 := (hf 1).trans rfl
               exact dp_ hJ (by simp [execOp, h1, go_sem])
             · have h47 : z_ a 47 _ := hd 1
               exact dp_ hJ (by simp [execOp, h47, go_sem])
             · have h48 : z_ a 48 _ := hd 2
               exact dp_ hJ (by simp [execOp, h48, go_sem])
             · have h2 : zp_ a 2 q 0 := (hf 2).trans rfl
               exact dp_ hJ (by simp [execOp, Act.eval, h2, go_sem])
           · intro fv x8 hox hj hs
             rw [seqv hs [46, 47, 48, 49, 50] (by kernel_rfl)]
             simp only [actV, Act.put, List.drop, List.length, List.setIfInBounds_toArray, List.set_cons_zero, List.set_cons_succ]
             clear hs
             have hbel := ax_ hox
             have szx := hbel.size
             have szv := H7.out.2.1.size
             have hkx : an_ c w x8 := HK0.out.trans (H7.out.2.2.trans (an_.below hbel))
             have hcx : Cod B c a7 x8 := a9_.below H7.out.1 hbel
             have HX := h3_ hbel hkx hcx
             clear hbel hkx hcx hox
             go_wp2_with fail
             refine (mt_ B c a7 ib 8 _ _ HX.out.2.2 (by omega) ((HG.out.2.1 8 (.slice none 0 0) rfl).keep HX.out.2.1) (by omega)).mono ?_
             rintro e v8 ⟨rfl, h1, h2, h3⟩
             obtain ⟨a8, ha⟩ : ∃ a, a = a7 ++ numL 0 := ⟨_, rfl⟩
             have h1' : Cod B c a8 v8 := by rw [ha]; exact h1
             have ln8 : a8.length ≤ 12010000 := by rw [ha]; obtain ⟨l0, lab9, labb, labn, i0, i256, hinf⟩ := HL.out; simp only [List.map_cons, List.map_nil, List.flatten_cons, List.flatten_nil, List.append_nil, List.length_append, List.length_nil, List.length_cons]; omega
             have HA8 := h1_ ha
             have H8 := h1_ (show Cod B c a8 v8 ∧ Below B w v8 ∧ an_ c v2 v8 from ⟨h1', H7.out.2.1.trans ((HX.out.1.mono (by omega)).trans h2), H7.out.2.2.trans ((an_.below HX.out.1).trans h3)⟩)
             clear yq lq yp lp
             have yq := (HQ.out.1.keep H8.out.2.2).cell
             have lq : q < v8.heap.size := World.block_lt_of_cell? _ _ yq
             have yp := (HQ.out.2.keep H8.out.2.2).cell
             have lp : p5 < v8.heap.size := World.block_lt_of_cell? _ _ yp
             clear h1 h1' h2 h3 HX szx szv ha ln7
             go_upto_region 9 with fail
             refine wq_ 5 [] (fun _ => False) [.pt c 0, .pt ib 0, .pt ib 0, .pt ib 9, .val (.func (.func 309) #[] #[.pointer (some ⟨q, 0, none⟩)])] (fun _ _ => True) (by kernel_rfl) (by kernel_rfl) (trivial) ?_ ?_
             · simp only [a4_, List.take]
               refine ⟨?_, ?_, ?_, ?_, ?_, trivial⟩
               all_goals intro k a wr ho hJ hk hr hf hd
               · have h2 : zp_ a 2 q 0 := (hf 2).trans rfl
                 have hc := (World.cell?_of_block (ho.block q lq id)).trans yq
                 exact dp_ hJ (by simp [execOp, h2, hc, go_sem])
               · have h1 : zp_ a 1 ib 0 := (hf 1).trans rfl
                 exact dp_ hJ (by simp [execOp, h1, go_sem])
               · have h53 : z_ a 53 _ := hd 1
                 exact dp_ hJ (by simp [execOp, h53, go_sem])
               · have h54 : z_ a 54 _ := hd 2
                 exact dp_ hJ (by simp [execOp, h54, go_sem])
               · have h2 : zp_ a 2 q 0 := (hf 2).trans rfl
                 exact dp_ hJ (by simp [execOp, Act.eval, h2, go_sem])
             · intro fv x9 hox hj hs
               rw [seqv hs [52, 53, 54, 55, 56] (by kernel_rfl)]
               simp only [actV, Act.put, List.drop, List.length, List.setIfInBounds_toArray, List.set_cons_zero, List.set_cons_succ]
               clear hs
               have hbel := ax_ hox
               have szx := hbel.size
               have szv := H8.out.2.1.size
               have hkx : an_ c w x9 := HK0.out.trans (H8.out.2.2.trans (an_.below hbel))
               have hcx : Cod B c a8 x9 := a9_.below H8.out.1 hbel
               have HX := h3_ hbel hkx hcx
               clear hbel hkx hcx hox
               go_wp2_with fail
               refine (mu_ B c a8 ib 9 _ _ HX.out.2.2 (by omega) ((HG.out.2.1 9 (.slice none 0 0) rfl).keep HX.out.2.1) (by omega)).mono ?_
               rintro e v9 ⟨rfl, h1, h2, h3⟩
               obtain ⟨a9, ha⟩ : ∃ a, a = a8 ++ numL 0 := ⟨_, rfl⟩
               have h1' : Cod B c a9 v9 := by rw [ha]; exact h1
               have ln9 : a9.length ≤ 14010000 := by rw [ha]; obtain ⟨l0, lab9, labb, labn, i0, i256, hinf⟩ := HL.out; simp only [List.map_cons, List.map_nil, List.flatten_cons, List.flatten_nil, List.append_nil, List.length_append, List.length_nil, List.length_cons]; omega
               have HA9 := h1_ ha
               have H9 := h1_ (show Cod B c a9 v9 ∧ Below B w v9 ∧ an_ c v2 v9 from ⟨h1', H8.out.2.1.trans ((HX.out.1.mono (by omega)).trans h2), H8.out.2.2.trans ((an_.below HX.out.1).trans h3)⟩)
               clear yq lq yp lp
               have yq := (HQ.out.1.keep H9.out.2.2).cell
               have lq : q < v9.heap.size := World.block_lt_of_cell? _ _ yq
               have yp := (HQ.out.2.keep H9.out.2.2).cell
               have lp : p5 < v9.heap.size := World.block_lt_of_cell? _ _ yp
               clear h1 h1' h2 h3 HX szx szv ha ln8
               go_upto_region 10 with fail
               refine wq_ 5 [] (fun _ => False) [.pt c 0, .pt ib 0, .pt ib 0, .pt ib 10, .val (.func (.func 311) #[] #[.pointer (some ⟨q, 0, none⟩)])] (fun _ _ => True) (by kernel_rfl) (by kernel_rfl) (trivial) ?_ ?_
               · simp only [a4_, List.take]
                 refine ⟨?_, ?_, ?_, ?_, ?_, trivial⟩
                 all_goals intro k a wr ho hJ hk hr hf hd
                 · have h2 : zp_ a 2 q 0 := (hf 2).trans rfl
                   have hc := (World.cell?_of_block (ho.block q lq id)).trans yq
                   exact dp_ hJ (by simp [execOp, h2, hc, go_sem])
                 · have h1 : zp_ a 1 ib 0 := (hf 1).trans rfl
                   exact dp_ hJ (by simp [execOp, h1, go_sem])
                 · have h59 : z_ a 59 _ := hd 1
                   exact dp_ hJ (by simp [execOp, h59, go_sem])
                 · have h60 : z_ a 60 _ := hd 2
                   exact dp_ hJ (by simp [execOp, h60, go_sem])
                 · have h2 : zp_ a 2 q 0 := (hf 2).trans rfl
                   exact dp_ hJ (by simp [execOp, Act.eval, h2, go_sem])
               · intro fv x10 hox hj hs
                 rw [seqv hs [58, 59, 60, 61, 62] (by kernel_rfl)]
                 simp only [actV, Act.put, List.drop, List.length, List.setIfInBounds_toArray, List.set_cons_zero, List.set_cons_succ]
                 clear hs
                 have hbel := ax_ hox
                 have szx := hbel.size
                 have szv := H9.out.2.1.size
                 have hkx : an_ c w x10 := HK0.out.trans (H9.out.2.2.trans (an_.below hbel))
                 have hcx : Cod B c a9 x10 := a9_.below H9.out.1 hbel
                 have HX := h3_ hbel hkx hcx
                 clear hbel hkx hcx hox
                 go_wp2_with fail
                 refine (mv_ B c a9 ib 10 _ _ HX.out.2.2 (by omega) ((HG.out.2.1 10 (.slice none 0 0) rfl).keep HX.out.2.1) (by omega)).mono ?_
                 rintro e v10 ⟨rfl, h1, h2, h3⟩
                 obtain ⟨a10, ha⟩ : ∃ a, a = a9 ++ numL 0 := ⟨_, rfl⟩
                 have h1' : Cod B c a10 v10 := by rw [ha]; exact h1
                 have ln10 : a10.length ≤ 16010000 := by rw [ha]; obtain ⟨l0, lab9, labb, labn, i0, i256, hinf⟩ := HL.out; simp only [List.map_cons, List.map_nil, List.flatten_cons, List.flatten_nil, List.append_nil, List.length_append, List.length_nil, List.length_cons]; omega
                 have HA10 := h1_ ha
                 have H10 := h1_ (show Cod B c a10 v10 ∧ Below B w v10 ∧ an_ c v2 v10 from ⟨h1', H9.out.2.1.trans ((HX.out.1.mono (by omega)).trans h2), H9.out.2.2.trans ((an_.below HX.out.1).trans h3)⟩)
                 clear yq lq yp lp
                 have yq := (HQ.out.1.keep H10.out.2.2).cell
                 have lq : q < v10.heap.size := World.block_lt_of_cell? _ _ yq
                 have yp := (HQ.out.2.keep H10.out.2.2).cell
                 have lp : p5 < v10.heap.size := World.block_lt_of_cell? _ _ yp
                 clear h1 h1' h2 h3 HX szx szv ha ln9
                 go_upto_region 11 with fail
                 refine wq_ 5 [] (fun _ => False) [.pt c 0, .pt ib 0, .pt ib 0, .pt ib 11, .val (.func (.func 301) #[] #[.pointer (some ⟨q, 0, none⟩)])] (fun _ _ => True) (by kernel_rfl) (by kernel_rfl) (trivial) ?_ ?_
                 · simp only [a4_, List.take]
                   refine ⟨?_, ?_, ?_, ?_, ?_, trivial⟩
                   all_goals intro k a wr ho hJ hk hr hf hd
                   · have h2 : zp_ a 2 q 0 := (hf 2).trans rfl
                     have hc := (World.cell?_of_block (ho.block q lq id)).trans yq
                     exact dp_ hJ (by simp [execOp, h2, hc, go_sem])
                   · have h1 : zp_ a 1 ib 0 := (hf 1).trans rfl
                     exact dp_ hJ (by simp [execOp, h1, go_sem])
                   · have h65 : z_ a 65 _ := hd 1
                     exact dp_ hJ (by simp [execOp, h65, go_sem])
                   · have h66 : z_ a 66 _ := hd 2
                     exact dp_ hJ (by simp [execOp, h66, go_sem])
                   · have h4 : z_ a 4 (.func (.func 301) #[] #[.pointer (some ⟨q, 0, none⟩)]) := (hf 4).trans rfl
                     exact dp_ hJ (by simp [execOp, h4, go_sem])
                 · intro fv x11 hox hj hs
                   rw [seqv hs [64, 65, 66, 67, 68] (by kernel_rfl)]
                   simp only [actV, Act.put, List.drop, List.length, List.setIfInBounds_toArray, List.set_cons_zero, List.set_cons_succ]
                   clear hs
                   have hbel := ax_ hox
                   have szx := hbel.size
                   have szv := H10.out.2.1.size
                   have hkx : an_ c w x11 := HK0.out.trans (H10.out.2.2.trans (an_.below hbel))
                   have hcx : Cod B c a10 x11 := a9_.below H10.out.1 hbel
                   have HX := h3_ hbel hkx hcx
                   clear hbel hkx hcx hox
                   go_wp2_with fail
                   refine (hl_ B c a10 ib 11 _ _ HX.out.2.2 (by omega) ((HG.out.2.1 11 (.slice none 0 0) rfl).keep HX.out.2.1) (by omega)).mono ?_
                   rintro e v11 ⟨rfl, h1, h2, h3⟩
                   obtain ⟨a11, ha⟩ : ∃ a, a = a10 ++ numL 0 := ⟨_, rfl⟩
                   have h1' : Cod B c a11 v11 := by rw [ha]; exact h1
                   have ln11 : a11.length ≤ 18010000 := by rw [ha]; obtain ⟨l0, lab9, labb, labn, i0, i256, hinf⟩ := HL.out; simp only [List.map_cons, List.map_nil, List.flatten_cons, List.flatten_nil, List.append_nil, List.length_append, List.length_nil, List.length_cons]; omega
                   have HA11 := h1_ ha
                   have H11 := h1_ (show Cod B c a11 v11 ∧ Below B w v11 ∧ an_ c v2 v11 from ⟨h1', H10.out.2.1.trans ((HX.out.1.mono (by omega)).trans h2), H10.out.2.2.trans ((an_.below HX.out.1).trans h3)⟩)
                   clear yq lq yp lp
                   have yq := (HQ.out.1.keep H11.out.2.2).cell
                   have lq : q < v11.heap.size := World.block_lt_of_cell? _ _ yq
                   have yp := (HQ.out.2.keep H11.out.2.2).cell
                   have lp : p5 < v11.heap.size := World.block_lt_of_cell? _ _ yp
                   clear h1 h1' h2 h3 HX szx szv ha ln10
                   go_upto_region 12 with fail
                   refine wq_ 5 [] (fun _ => False) [.pt c 0, .pt ib 0, .pt ib 0, .pt ib 12, .val (.func (.func 301) #[] #[.pointer (some ⟨q, 0, none⟩)])] (fun _ _ => True) (by kernel_rfl) (by kernel_rfl) (trivial) ?_ ?_
                   · simp only [a4_, List.take]
                     refine ⟨?_, ?_, ?_, ?_, ?_, trivial⟩
                     all_goals intro k a wr ho hJ hk hr hf hd
                     · have h2 : zp_ a 2 q 0 := (hf 2).trans rfl
                       have hc := (World.cell?_of_block (ho.block q lq id)).trans yq
                       exact dp_ hJ (by simp [execOp, h2, hc, go_sem])
                     · have h1 : zp_ a 1 ib 0 := (hf 1).trans rfl
                       exact dp_ hJ (by simp [execOp, h1, go_sem])
                     · have h71 : z_ a 71 _ := hd 1
                       exact dp_ hJ (by simp [execOp, h71, go_sem])
                     · have h72 : z_ a 72 _ := hd 2
                       exact dp_ hJ (by simp [execOp, h72, go_sem])
                     · have h4 : z_ a 4 (.func (.func 301) #[] #[.pointer (some ⟨q, 0, none⟩)]) := (hf 4).trans rfl
                       exact dp_ hJ (by simp [execOp, h4, go_sem])
                   · intro fv x12 hox hj hs
                     rw [seqv hs [70, 71, 72, 73, 74] (by kernel_rfl)]
                     simp only [actV, Act.put, List.drop, List.length, List.setIfInBounds_toArray, List.set_cons_zero, List.set_cons_succ]
                     clear hs
                     have hbel := ax_ hox
                     have szx := hbel.size
                     have szv := H11.out.2.1.size
                     have hkx : an_ c w x12 := HK0.out.trans (H11.out.2.2.trans (an_.below hbel))
                     have hcx : Cod B c a11 x12 := a9_.below H11.out.1 hbel
                     have HX := h3_ hbel hkx hcx
                     clear hbel hkx hcx hox
                     go_wp2_with fail
                     refine (hl_ B c a11 ib 12 _ _ HX.out.2.2 (by omega) ((HG.out.2.1 12 (.slice none 0 0) rfl).keep HX.out.2.1) (by omega)).mono ?_
                     rintro e v12 ⟨rfl, h1, h2, h3⟩
                     obtain ⟨a12, ha⟩ : ∃ a, a = a11 ++ numL 0 := ⟨_, rfl⟩
                     have h1' : Cod B c a12 v12 := by rw [ha]; exact h1
                     have ln12 : a12.length ≤ 20010000 := by rw [ha]; obtain ⟨l0, lab9, labb, labn, i0, i256, hinf⟩ := HL.out; simp only [List.map_cons, List.map_nil, List.flatten_cons, List.flatten_nil, List.append_nil, List.length_append, List.length_nil, List.length_cons]; omega
                     have HA12 := h1_ ha
                     have H12 := h1_ (show Cod B c a12 v12 ∧ Below B w v12 ∧ an_ c v2 v12 from ⟨h1', H11.out.2.1.trans ((HX.out.1.mono (by omega)).trans h2), H11.out.2.2.trans ((an_.below HX.out.1).trans h3)⟩)
                     clear yq lq yp lp
                     have yq := (HQ.out.1.keep H12.out.2.2).cell
                     have lq : q < v12.heap.size := World.block_lt_of_cell? _ _ yq
                     have yp := (HQ.out.2.keep H12.out.2.2).cell
                     have lp : p5 < v12.heap.size := World.block_lt_of_cell? _ _ yp
                     clear h1 h1' h2 h3 HX szx szv ha ln11
                     go_upto_region 13 with fail
                     refine wq_ 5 [] (fun _ => False) [.pt c 0, .pt ib 0, .pt ib 0, .pt ib 13, .val (.func (.func 314) #[] #[.pointer (some ⟨q, 0, none⟩)])] (fun _ _ => True) (by kernel_rfl) (by kernel_rfl) (trivial) ?_ ?_
                     · simp only [a4_, List.take]
                       refine ⟨?_, ?_, ?_, ?_, ?_, trivial⟩
                       all_goals intro k a wr ho hJ hk hr hf hd
                       · have h2 : zp_ a 2 q 0 := (hf 2).trans rfl
                         have hc := (World.cell?_of_block (ho.block q lq id)).trans yq
                         exact dp_ hJ (by simp [execOp, h2, hc, go_sem])
                       · have h1 : zp_ a 1 ib 0 := (hf 1).trans rfl
                         exact dp_ hJ (by simp [execOp, h1, go_sem])
                       · have h77 : z_ a 77 _ := hd 1
                         exact dp_ hJ (by simp [execOp, h77, go_sem])
                       · have h78 : z_ a 78 _ := hd 2
                         exact dp_ hJ (by simp [execOp, h78, go_sem])
                       · have h2 : zp_ a 2 q 0 := (hf 2).trans rfl
                         exact dp_ hJ (by simp [execOp, Act.eval, h2, go_sem])
                     · intro fv x13 hox hj hs
                       rw [seqv hs [76, 77, 78, 79, 80] (by kernel_rfl)]
                       simp only [actV, Act.put, List.drop, List.length, List.setIfInBounds_toArray, List.set_cons_zero, List.set_cons_succ]
                       clear hs
                       have hbel := ax_ hox
                       have szx := hbel.size
                       have szv := H12.out.2.1.size
                       have hkx : an_ c w x13 := HK0.out.trans (H12.out.2.2.trans (an_.below hbel))
                       have hcx : Cod B c a12 x13 := a9_.below H12.out.1 hbel
                       have HX := h3_ hbel hkx hcx
                       clear hbel hkx hcx hox
                       go_wp2_with fail
                       refine (ue_ B c a12 ib 13 _ _ HX.out.2.2 (by omega) ((HG.out.2.1 13 (.slice none 0 0) rfl).keep HX.out.2.1) (by omega)).mono ?_
                       rintro e v13 ⟨rfl, h1, h2, h3⟩
                       obtain ⟨a13, ha⟩ : ∃ a, a = a12 ++ numL 0 := ⟨_, rfl⟩
                       have h1' : Cod B c a13 v13 := by rw [ha]; exact h1
                       have ln13 : a13.length ≤ 22010000 := by rw [ha]; obtain ⟨l0, lab9, labb, labn, i0, i256, hinf⟩ := HL.out; simp only [List.map_cons, List.map_nil, List.flatten_cons, List.flatten_nil, List.append_nil, List.length_append, List.length_nil, List.length_cons]; omega
                       have HA13 := h1_ ha
                       have H13 := h1_ (show Cod B c a13 v13 ∧ Below B w v13 ∧ an_ c v2 v13 from ⟨h1', H12.out.2.1.trans ((HX.out.1.mono (by omega)).trans h2), H12.out.2.2.trans ((an_.below HX.out.1).trans h3)⟩)
                       clear yq lq yp lp
                       have yq := (HQ.out.1.keep H13.out.2.2).cell
                       have lq : q < v13.heap.size := World.block_lt_of_cell? _ _ yq
                       have yp := (HQ.out.2.keep H13.out.2.2).cell
                       have lp : p5 < v13.heap.size := World.block_lt_of_cell? _ _ yp
                       clear h1 h1' h2 h3 HX szx szv ha ln12
                       go_upto_region 14 with fail
                       refine wq_ 5 [] (fun _ => False) [.pt c 0, .pt ib 0, .pt ib 0, .pt ib 14, .val (.func (.func 301) #[] #[.pointer (some ⟨q, 0, none⟩)])] (fun _ _ => True) (by kernel_rfl) (by kernel_rfl) (trivial) ?_ ?_
                       · simp only [a4_, List.take]
                         refine ⟨?_, ?_, ?_, ?_, ?_, trivial⟩
                         all_goals intro k a wr ho hJ hk hr hf hd
                         · have h2 : zp_ a 2 q 0 := (hf 2).trans rfl
                           have hc := (World.cell?_of_block (ho.block q lq id)).trans yq
                           exact dp_ hJ (by simp [execOp, h2, hc, go_sem])
                         · have h1 : zp_ a 1 ib 0 := (hf 1).trans rfl
                           exact dp_ hJ (by simp [execOp, h1, go_sem])
                         · have h83 : z_ a 83 _ := hd 1
                           exact dp_ hJ (by simp [execOp, h83, go_sem])
                         · have h84 : z_ a 84 _ := hd 2
                           exact dp_ hJ (by simp [execOp, h84, go_sem])
                         · have h4 : z_ a 4 (.func (.func 301) #[] #[.pointer (some ⟨q, 0, none⟩)]) := (hf 4).trans rfl
                           exact dp_ hJ (by simp [execOp, h4, go_sem])
                       · intro fv x14 hox hj hs
                         rw [seqv hs [82, 83, 84, 85, 86] (by kernel_rfl)]
                         simp only [actV, Act.put, List.drop, List.length, List.setIfInBounds_toArray, List.set_cons_zero, List.set_cons_succ]
                         clear hs
                         have hbel := ax_ hox
                         have szx := hbel.size
                         have szv := H13.out.2.1.size
                         have hkx : an_ c w x14 := HK0.out.trans (H13.out.2.2.trans (an_.below hbel))
                         have hcx : Cod B c a13 x14 := a9_.below H13.out.1 hbel
                         have HX := h3_ hbel hkx hcx
                         clear hbel hkx hcx hox
                         go_wp2_with fail
                         refine (hl_ B c a13 ib 14 _ _ HX.out.2.2 (by omega) ((HG.out.2.1 14 (.slice none 0 0) rfl).keep HX.out.2.1) (by omega)).mono ?_
                         rintro e v14 ⟨rfl, h1, h2, h3⟩
                         obtain ⟨a14, ha⟩ : ∃ a, a = a13 ++ numL 0 := ⟨_, rfl⟩
                         have h1' : Cod B c a14 v14 := by rw [ha]; exact h1
                         have ln14 : a14.length ≤ 24010000 := by rw [ha]; obtain ⟨l0, lab9, labb, labn, i0, i256, hinf⟩ := HL.out; simp only [List.map_cons, List.map_nil, List.flatten_cons, List.flatten_nil, List.append_nil, List.length_append, List.length_nil, List.length_cons]; omega
                         have HA14 := h1_ ha
                         have H14 := h1_ (show Cod B c a14 v14 ∧ Below B w v14 ∧ an_ c v2 v14 from ⟨h1', H13.out.2.1.trans ((HX.out.1.mono (by omega)).trans h2), H13.out.2.2.trans ((an_.below HX.out.1).trans h3)⟩)
                         clear yq lq yp lp
                         have yq := (HQ.out.1.keep H14.out.2.2).cell
                         have lq : q < v14.heap.size := World.block_lt_of_cell? _ _ yq
                         have yp := (HQ.out.2.keep H14.out.2.2).cell
                         have lp : p5 < v14.heap.size := World.block_lt_of_cell? _ _ yp
                         clear h1 h1' h2 h3 HX szx szv ha ln13
                         go_upto_region 15 with fail
                         refine wq_ 5 [] (fun _ => False) [.pt c 0, .pt ib 0, .pt ib 0, .pt ib 15, .val (.func (.func 301) #[] #[.pointer (some ⟨q, 0, none⟩)])] (fun _ _ => True) (by kernel_rfl) (by kernel_rfl) (trivial) ?_ ?_
                         · simp only [a4_, List.take]
                           refine ⟨?_, ?_, ?_, ?_, ?_, trivial⟩
                           all_goals intro k a wr ho hJ hk hr hf hd
                           · have h2 : zp_ a 2 q 0 := (hf 2).trans rfl
                             have hc := (World.cell?_of_block (ho.block q lq id)).trans yq
                             exact dp_ hJ (by simp [execOp, h2, hc, go_sem])
                           · have h1 : zp_ a 1 ib 0 := (hf 1).trans rfl
                             exact dp_ hJ (by simp [execOp, h1, go_sem])
                           · have h89 : z_ a 89 _ := hd 1
                             exact dp_ hJ (by simp [execOp, h89, go_sem])
                           · have h90 : z_ a 90 _ := hd 2
                             exact dp_ hJ (by simp [execOp, h90, go_sem])
                           · have h4 : z_ a 4 (.func (.func 301) #[] #[.pointer (some ⟨q, 0, none⟩)]) := (hf 4).trans rfl
                             exact dp_ hJ (by simp [execOp, h4, go_sem])
                         · intro fv x15 hox hj hs
                           rw [seqv hs [88, 89, 90, 91, 92] (by kernel_rfl)]
                           simp only [actV, Act.put, List.drop, List.length, List.setIfInBounds_toArray, List.set_cons_zero, List.set_cons_succ]
                           clear hs
                           have hbel := ax_ hox
                           have szx := hbel.size
                           have szv := H14.out.2.1.size
                           have hkx : an_ c w x15 := HK0.out.trans (H14.out.2.2.trans (an_.below hbel))
                           have hcx : Cod B c a14 x15 := a9_.below H14.out.1 hbel
                           have HX := h3_ hbel hkx hcx
                           clear hbel hkx hcx hox
                           go_wp2_with fail
                           refine (hl_ B c a14 ib 15 _ _ HX.out.2.2 (by omega) ((HG.out.2.1 15 (.slice none 0 0) rfl).keep HX.out.2.1) (by omega)).mono ?_
                           rintro e v15 ⟨rfl, h1, h2, h3⟩
                           obtain ⟨a15, ha⟩ : ∃ a, a = a14 ++ numL 0 := ⟨_, rfl⟩
                           have h1' : Cod B c a15 v15 := by rw [ha]; exact h1
                           have ln15 : a15.length ≤ 26010000 := by rw [ha]; obtain ⟨l0, lab9, labb, labn, i0, i256, hinf⟩ := HL.out; simp only [List.map_cons, List.map_nil, List.flatten_cons, List.flatten_nil, List.append_nil, List.length_append, List.length_nil, List.length_cons]; omega
                           have HA15 := h1_ ha
                           have H15 := h1_ (show Cod B c a15 v15 ∧ Below B w v15 ∧ an_ c v2 v15 from ⟨h1', H14.out.2.1.trans ((HX.out.1.mono (by omega)).trans h2), H14.out.2.2.trans ((an_.below HX.out.1).trans h3)⟩)
                           clear yq lq yp lp
                           have yq := (HQ.out.1.keep H15.out.2.2).cell
                           have lq : q < v15.heap.size := World.block_lt_of_cell? _ _ yq
                           have yp := (HQ.out.2.keep H15.out.2.2).cell
                           have lp : p5 < v15.heap.size := World.block_lt_of_cell? _ _ yp
                           clear h1 h1' h2 h3 HX szx szv ha ln14
                           go_upto_region 16 with fail
                           refine wq_ 5 [] (fun _ => False) [.pt c 0, .pt ib 0, .pt ib 0, .pt ib 16, .more (g8_ 215 c 1 [(ib, 16)]) (fun v w w' ho h => h.only v w w' ho)] (fun _ _ => True) (by kernel_rfl) (by kernel_rfl) (trivial) ?_ ?_
                           · simp only [a4_, List.take]
                             refine ⟨?_, ?_, ?_, ?_, ?_, trivial⟩
                             all_goals intro k a wr ho hJ hk hr hf hd
                             · have h2 : zp_ a 2 q 0 := (hf 2).trans rfl
                               have hc := (World.cell?_of_block (ho.block q lq id)).trans yq
                               exact dp_ hJ (by simp [execOp, h2, hc, go_sem])
                             · have h1 : zp_ a 1 ib 0 := (hf 1).trans rfl
                               exact dp_ hJ (by simp [execOp, h1, go_sem])
                             · have h95 : z_ a 95 _ := hd 1
                               exact dp_ hJ (by simp [execOp, h95, go_sem])
                             · have h96 : z_ a 96 _ := hd 2
                               exact dp_ hJ (by simp [execOp, h96, go_sem])
                             · have h97 : z_ a 97 _ := hd 3
                               exact bc_ (v := .slice (some ⟨wr.heap.size, 0, none⟩) 1 1) (w' := wr.alloc (.cells (gr_ [(ib, 16)]).toArray 215)) (by simp [execOp, h97, go_sem, gr_]) ⟨⟨wr.heap.size, rfl, by have := ho.size; have := H15.out.2.1.size; omega, heap_alloc_new _ _⟩, (Only.refl _ _).alloc _, hJ⟩
                           · intro fv x16 hox hj hs
                             have q98 := hs 4 (by decide)
                             rw [seqv hs [94, 95, 96, 97, 98] (by kernel_rfl)]
                             simp only [actV, Act.put, List.drop, List.length, List.setIfInBounds_toArray, List.set_cons_zero, List.set_cons_succ]
                             clear hs
                             have hbel := ax_ hox
                             have szx := hbel.size
                             have szv := H15.out.2.1.size
                             have hkx : an_ c w x16 := HK0.out.trans (H15.out.2.2.trans (an_.below hbel))
                             have hcx : Cod B c a15 x16 := a9_.below H15.out.1 hbel
                             have HX := h3_ hbel hkx hcx
                             clear hbel hkx hcx hox
                             obtain ⟨g, hg, hgc, hrow⟩ : g8_ 215 c 1 [(ib, 16)] (fv 98) _ := q98
                             rw [hg]
                             clear hg
                             go_wp2_with fail
                             refine (cints B c g a15 [(ib, 16)] ([0] : List (Int)) rfl (by simp) _ HX.out.2.2 (by omega) hrow hgc ?_ ?_ (by obtain ⟨l0, lab9, labb, labn, i0, i256, hinf⟩ := HL.out; simp only [List.map_cons, List.map_nil, List.flatten_cons, List.flatten_nil, List.append_nil, List.length_append, List.length_nil, List.length_cons]; omega)).mono ?_
                             · intro i p x h1 h2
                               match i with
                               | 0 => cases h1; cases h2; exact (HG.out.2.1 16 (.int .i64 0) rfl).keep HX.out.2.1
                               | i + 1 => simp at h1
                             · intro i hi
                               match i, hi with
                               | 0, _ => exact (⟨by decide, by decide⟩ : I64 0)
                               | i + 1, hi => simp at hi <;> omega
                             rintro e v16 ⟨rfl, h1, h2, h3⟩
                             obtain ⟨a16, ha⟩ : ∃ a, a = a15 ++ ([(0 : Int)].map intL).flatten := ⟨_, rfl⟩
                             have h1' : Cod B c a16 v16 := by rw [ha]; exact h1
                             have ln16 : a16.length ≤ 28010000 := by rw [ha]; obtain ⟨l0, lab9, labb, labn, i0, i256, hinf⟩ := HL.out; simp only [List.map_cons, List.map_nil, List.flatten_cons, List.flatten_nil, List.append_nil, List.length_append, List.length_nil, List.length_cons]; omega
                             have HA16 := h1_ ha
                             have H16 := h1_ (show Cod B c a16 v16 ∧ Below B w v16 ∧ an_ c v2 v16 from ⟨h1', H15.out.2.1.trans ((HX.out.1.mono (by omega)).trans h2), H15.out.2.2.trans ((an_.below HX.out.1).trans h3)⟩)
                             clear yq lq yp lp
                             have yq := (HQ.out.1.keep H16.out.2.2).cell
                             have lq : q < v16.heap.size := World.block_lt_of_cell? _ _ yq
                             have yp := (HQ.out.2.keep H16.out.2.2).cell
                             have lp : p5 < v16.heap.size := World.block_lt_of_cell? _ _ yp
                             clear h1 h1' h2 h3 HX szx szv ha ln15
                             go_upto_region 17 with fail
                             refine wq_ 5 [] (fun _ => False) [.pt c 0, .pt ib 0, .pt ib 0, .pt ib 17, .val (.func (.func 303) #[] #[.pointer (some ⟨q, 0, none⟩)])] (fun _ _ => True) (by kernel_rfl) (by kernel_rfl) (trivial) ?_ ?_
                             · simp only [a4_, List.take]
                               refine ⟨?_, ?_, ?_, ?_, ?_, trivial⟩
                               all_goals intro k a wr ho hJ hk hr hf hd
                               · have h2 : zp_ a 2 q 0 := (hf 2).trans rfl
                                 have hc := (World.cell?_of_block (ho.block q lq id)).trans yq
                                 exact dp_ hJ (by simp [execOp, h2, hc, go_sem])
                               · have h1 : zp_ a 1 ib 0 := (hf 1).trans rfl
                                 exact dp_ hJ (by simp [execOp, h1, go_sem])
                               · have h101 : z_ a 101 _ := hd 1
                                 exact dp_ hJ (by simp [execOp, h101, go_sem])
                               · have h102 : z_ a 102 _ := hd 2
                                 exact dp_ hJ (by simp [execOp, h102, go_sem])
                               · have h5 : zp_ a 5 p5 0 := (hf 5).trans rfl
                                 have hc := (World.cell?_of_block (ho.block p5 lp id)).trans yp
                                 exact dp_ hJ (by simp [execOp, h5, hc, go_sem])
                             · intro fv x17 hox hj hs
                               rw [seqv hs [100, 101, 102, 103, 104] (by kernel_rfl)]
                               simp only [actV, Act.put, List.drop, List.length, List.setIfInBounds_toArray, List.set_cons_zero, List.set_cons_succ]
                               clear hs
                               have hbel := ax_ hox
                               have szx := hbel.size
                               have szv := H16.out.2.1.size
                               have hkx : an_ c w x17 := HK0.out.trans (H16.out.2.2.trans (an_.below hbel))
                               have hcx : Cod B c a16 x17 := a9_.below H16.out.1 hbel
                               have HX := h3_ hbel hkx hcx
                               clear hbel hkx hcx hox
                               go_wp2_with fail
                               refine (mw_ B c a16 ib 17 _ _ HX.out.2.2 (by omega) ((HG.out.2.1 17 (.slice none 0 0) rfl).keep HX.out.2.1) (by omega)).mono ?_
                               rintro e v17 ⟨rfl, h1, h2, h3⟩
                               obtain ⟨a17, ha⟩ : ∃ a, a = a16 ++ numL 0 := ⟨_, rfl⟩
                               have h1' : Cod B c a17 v17 := by rw [ha]; exact h1
                               have ln17 : a17.length ≤ 30010000 := by rw [ha]; obtain ⟨l0, lab9, labb, labn, i0, i256, hinf⟩ := HL.out; simp only [List.map_cons, List.map_nil, List.flatten_cons, List.flatten_nil, List.append_nil, List.length_append, List.length_nil, List.length_cons]; omega
                               have HA17 := h1_ ha
                               have H17 := h1_ (show Cod B c a17 v17 ∧ Below B w v17 ∧ an_ c v2 v17 from ⟨h1', H16.out.2.1.trans ((HX.out.1.mono (by omega)).trans h2), H16.out.2.2.trans ((an_.below HX.out.1).trans h3)⟩)
                               clear yq lq yp lp
                               have yq := (HQ.out.1.keep H17.out.2.2).cell
                               have lq : q < v17.heap.size := World.block_lt_of_cell? _ _ yq
                               have yp := (HQ.out.2.keep H17.out.2.2).cell
                               have lp : p5 < v17.heap.size := World.block_lt_of_cell? _ _ yp
                               clear h1 h1' h2 h3 HX szx szv ha ln16
                               go_upto_region 18 with fail
                               refine wq_ 5 [] (fun _ => False) [.pt c 0, .pt ib 0, .pt ib 0, .pt ib 18, .val (.func (.func 317) #[] #[.pointer (some ⟨q, 0, none⟩), .pointer (some ⟨p5, 0, none⟩)])] (fun _ _ => True) (by kernel_rfl) (by kernel_rfl) (trivial) ?_ ?_
                               · simp only [a4_, List.take]
                                 refine ⟨?_, ?_, ?_, ?_, ?_, trivial⟩
                                 all_goals intro k a wr ho hJ hk hr hf hd
                                 · have h2 : zp_ a 2 q 0 := (hf 2).trans rfl
                                   have hc := (World.cell?_of_block (ho.block q lq id)).trans yq
                                   exact dp_ hJ (by simp [execOp, h2, hc, go_sem])
                                 · have h1 : zp_ a 1 ib 0 := (hf 1).trans rfl
                                   exact dp_ hJ (by simp [execOp, h1, go_sem])
                                 · have h107 : z_ a 107 _ := hd 1
                                   exact dp_ hJ (by simp [execOp, h107, go_sem])
                                 · have h108 : z_ a 108 _ := hd 2
                                   exact dp_ hJ (by simp [execOp, h108, go_sem])
                                 · have h2 : zp_ a 2 q 0 := (hf 2).trans rfl
                                   have h5 : zp_ a 5 p5 0 := (hf 5).trans rfl
                                   exact dp_ hJ (by simp [execOp, Act.eval, h2, h5, go_sem])
                               · intro fv x18 hox hj hs
                                 rw [seqv hs [106, 107, 108, 109, 110] (by kernel_rfl)]
                                 simp only [actV, Act.put, List.drop, List.length, List.setIfInBounds_toArray, List.set_cons_zero, List.set_cons_succ]
                                 clear hs
                                 have hbel := ax_ hox
                                 have szx := hbel.size
                                 have szv := H17.out.2.1.size
                                 have hkx : an_ c w x18 := HK0.out.trans (H17.out.2.2.trans (an_.below hbel))
                                 have hcx : Cod B c a17 x18 := a9_.below H17.out.1 hbel
                                 have HX := h3_ hbel hkx hcx
                                 clear hbel hkx hcx hox
                                 go_wp2_with fail
                                 refine (ir_ B c a17 ib 18 _ _ HX.out.2.2 (by omega) ((HG.out.2.1 18 (.slice none 0 0) rfl).keep HX.out.2.1) (by omega)).mono ?_
                                 rintro e v18 ⟨rfl, h1, h2, h3⟩
                                 obtain ⟨a18, ha⟩ : ∃ a, a = a17 ++ numL 0 := ⟨_, rfl⟩
                                 have h1' : Cod B c a18 v18 := by rw [ha]; exact h1
                                 have ln18 : a18.length ≤ 32010000 := by rw [ha]; obtain ⟨l0, lab9, labb, labn, i0, i256, hinf⟩ := HL.out; simp only [List.map_cons, List.map_nil, List.flatten_cons, List.flatten_nil, List.append_nil, List.length_append, List.length_nil, List.length_cons]; omega
                                 have HA18 := h1_ ha
                                 have H18 := h1_ (show Cod B c a18 v18 ∧ Below B w v18 ∧ an_ c v2 v18 from ⟨h1', H17.out.2.1.trans ((HX.out.1.mono (by omega)).trans h2), H17.out.2.2.trans ((an_.below HX.out.1).trans h3)⟩)
                                 clear yq lq yp lp
                                 have yq := (HQ.out.1.keep H18.out.2.2).cell
                                 have lq : q < v18.heap.size := World.block_lt_of_cell? _ _ yq
                                 have yp := (HQ.out.2.keep H18.out.2.2).cell
                                 have lp : p5 < v18.heap.size := World.block_lt_of_cell? _ _ yp
                                 clear h1 h1' h2 h3 HX szx szv ha ln17
                                 go_upto_region 19 with fail
                                 refine wq_ 4 [] (fun _ => False) [.pt c 0, .pt ib 0, .pt ib 0, .pt ib 19] (fun _ _ => True) (by kernel_rfl) (by kernel_rfl) (trivial) ?_ ?_
                                 · simp only [a4_, List.take]
                                   refine ⟨?_, ?_, ?_, ?_, trivial⟩
                                   all_goals intro k a wr ho hJ hk hr hf hd
                                   · have h2 : zp_ a 2 q 0 := (hf 2).trans rfl
                                     have hc := (World.cell?_of_block (ho.block q lq id)).trans yq
                                     exact dp_ hJ (by simp [execOp, h2, hc, go_sem])
                                   · have h1 : zp_ a 1 ib 0 := (hf 1).trans rfl
                                     exact dp_ hJ (by simp [execOp, h1, go_sem])
                                   · have h113 : z_ a 113 _ := hd 1
                                     exact dp_ hJ (by simp [execOp, h113, go_sem])
                                   · have h114 : z_ a 114 _ := hd 2
                                     exact dp_ hJ (by simp [execOp, h114, go_sem])
                                 · intro fv x19 hox hj hs
                                   rw [seqv hs [112, 113, 114, 115] (by kernel_rfl)]
                                   simp only [actV, Act.put, List.drop, List.length, List.setIfInBounds_toArray, List.set_cons_zero, List.set_cons_succ]
                                   clear hs
                                   have hbel := ax_ hox
                                   have szx := hbel.size
                                   have szv := H18.out.2.1.size
                                   have hkx : an_ c w x19 := HK0.out.trans (H18.out.2.2.trans (an_.below hbel))
                                   have hcx : Cod B c a18 x19 := a9_.below H18.out.1 hbel
                                   have HX := h3_ hbel hkx hcx
                                   clear hbel hkx hcx hox
                                   go_wp2_with fail
                                   refine (cinfo B c BI.gd a18 ib 19 _ HX.out.2.2 (by omega) (fun j hj => (HG.out.2.1 (19 + j) (.slice none 0 0) (by match j, hj with | 0, _ => rfl | 1, _ => rfl | 2, _ => rfl | 3, _ => rfl | 4, _ => rfl)).keep HX.out.2.1) ((HG.out.2.1 24 _ rfl).keep HX.out.2.1) (HX.out.2.1.at_ HG.out.2.2.1 hdc (by decide)) hdc (by omega)).mono ?_
                                   rintro e v19 ⟨rfl, h1, h2, h3⟩
                                   obtain ⟨a19, ha⟩ : ∃ a, a = a18 ++ my_ := ⟨_, rfl⟩
                                   have h1' : Cod B c a19 v19 := by rw [ha]; exact h1
                                   have ln19 : a19.length ≤ 34010000 := by rw [ha]; obtain ⟨l0, lab9, labb, labn, i0, i256, hinf⟩ := HL.out; simp only [List.map_cons, List.map_nil, List.flatten_cons, List.flatten_nil, List.append_nil, List.length_append, List.length_nil, List.length_cons]; omega
                                   have HA19 := h1_ ha
                                   have H19 := h1_ (show Cod B c a19 v19 ∧ Below B w v19 ∧ an_ c v2 v19 from ⟨h1', H18.out.2.1.trans ((HX.out.1.mono (by omega)).trans h2), H18.out.2.2.trans ((an_.below HX.out.1).trans h3)⟩)
                                   clear yq lq yp lp
                                   have yq := (HQ.out.1.keep H19.out.2.2).cell
                                   have lq : q < v19.heap.size := World.block_lt_of_cell? _ _ yq
                                   have yp := (HQ.out.2.keep H19.out.2.2).cell
                                   have lp : p5 < v19.heap.size := World.block_lt_of_cell? _ _ yp
                                   clear h1 h1' h2 h3 HX szx szv ha ln18
                                   go_upto_region 20 with fail
                                   refine wq_ 5 [] (fun _ => False) [.pt c 0, .pt ib 0, .pt ib 0, .pt ib 25, .val (.func (.func 320) #[] #[.pointer (some ⟨q, 0, none⟩)])] (fun _ _ => True) (by kernel_rfl) (by kernel_rfl) (trivial) ?_ ?_
                                   · simp only [a4_, List.take]
                                     refine ⟨?_, ?_, ?_, ?_, ?_, trivial⟩
                                     all_goals intro k a wr ho hJ hk hr hf hd
                                     · have h2 : zp_ a 2 q 0 := (hf 2).trans rfl
                                       have hc := (World.cell?_of_block (ho.block q lq id)).trans yq
                                       exact dp_ hJ (by simp [execOp, h2, hc, go_sem])
                                     · have h1 : zp_ a 1 ib 0 := (hf 1).trans rfl
                                       exact dp_ hJ (by simp [execOp, h1, go_sem])
                                     · have h118 : z_ a 118 _ := hd 1
                                       exact dp_ hJ (by simp [execOp, h118, go_sem])
                                     · have h119 : z_ a 119 _ := hd 2
                                       exact dp_ hJ (by simp [execOp, h119, go_sem])
                                     · have h2 : zp_ a 2 q 0 := (hf 2).trans rfl
                                       exact dp_ hJ (by simp [execOp, Act.eval, h2, go_sem])
                                   · intro fv x20 hox hj hs
                                     rw [seqv hs [117, 118, 119, 120, 121] (by kernel_rfl)]
                                     simp only [actV, Act.put, List.drop, List.length, List.setIfInBounds_toArray, List.set_cons_zero, List.set_cons_succ]
                                     clear hs
                                     have hbel := ax_ hox
                                     have szx := hbel.size
                                     have szv := H19.out.2.1.size
                                     have hkx : an_ c w x20 := HK0.out.trans (H19.out.2.2.trans (an_.below hbel))
                                     have hcx : Cod B c a19 x20 := a9_.below H19.out.1 hbel
                                     have HX := h3_ hbel hkx hcx
                                     clear hbel hkx hcx hox
                                     go_wp2_with fail
                                     refine (r1_ B c a19 ib 25 _ _ HX.out.2.2 (by omega) ((HG.out.2.1 25 (.slice none 0 0) rfl).keep HX.out.2.1) (by omega)).mono ?_
                                     rintro e v20 ⟨rfl, h1, h2, h3⟩
                                     obtain ⟨a20, ha⟩ : ∃ a, a = a19 ++ numL 0 := ⟨_, rfl⟩
                                     have h1' : Cod B c a20 v20 := by rw [ha]; exact h1
                                     have ln20 : a20.length ≤ 36010000 := by rw [ha]; obtain ⟨l0, lab9, labb, labn, i0, i256, hinf⟩ := HL.out; simp only [List.map_cons, List.map_nil, List.flatten_cons, List.flatten_nil, List.append_nil, List.length_append, List.length_nil, List.length_cons]; omega
                                     have HA20 := h1_ ha
                                     have H20 := h1_ (show Cod B c a20 v20 ∧ Below B w v20 ∧ an_ c v2 v20 from ⟨h1', H19.out.2.1.trans ((HX.out.1.mono (by omega)).trans h2), H19.out.2.2.trans ((an_.below HX.out.1).trans h3)⟩)
                                     have HE := h1_ (HK0.out.trans H20.out.2.2)
                                     clear h1 h1' h2 h3 HX szx szv yq lq yp lp ha
                                     go_wp2
                                     refine bodyPost_end (results_none rfl _ _ _) rfl ?_
                                     refine ⟨rfl, ?_, H20.out.2.1, HE.out⟩
                                     have hfin : imgL BI = a20 := by rw [HA20.out, HA19.out, HA18.out, HA17.out, HA16.out, HA15.out, HA14.out, HA13.out, HA12.out, HA11.out, HA10.out, HA9.out, HA8.out, HA7.out, HA6.out, HA5.out, HA4.out, HA3.out, HA2.out]; unfold imgL; rfl
                                     rw [hfin]; exact H20.out.1
end
namespace Dig
open Go Go.RowKit
def rowF (n : Nat) (f : Nat → Int) : List Value := (List.range n).map fun i => .int .u64 (f i)
def put (f : Nat → Int) (a : Nat) (v : Int) : Nat → Int := fun i => if i = a then v else f i
theorem ey_ (n : Nat) (f : Nat → Int) : (rowF n f).length = n := by simp [rowF]
theorem ci_ (n : Nat) (f : Nat → Int) (i : Nat) (h : i < n) : (rowF n f)[i]? = some (.int .u64 (f i)) := by
 unfold rowF
 rw [List.getElem?_map, List.getElem?_range h]
 rfl
theorem hm_ (n : Nat) (f : Nat → Int) (i : Nat) (h : i < n) (v : Int) : (rowF n f).set i (.int .u64 v) = rowF n (put f i v) := by
 apply List.ext_getElem?
 intro j
 by_cases hj : j < n
 · rw [ci_ n _ j hj, List.getElem?_set]
   by_cases e : i = j
   · subst e
     rw [if_pos rfl, if_pos (by rw [ey_]; exact hj)]
     unfold put
     rw [if_pos rfl]
   · rw [if_neg e, ci_ n f j hj]
     unfold put
     rw [if_neg (fun h => e h.symm)]
 · rw [List.getElem?_eq_none (by rw [List.length_set, ey_]; omega), List.getElem?_eq_none (by rw [ey_]; omega)]
theorem jv_ (n : Nat) : rowF n (fun _ => 0) = List.replicate n (.int .u64 0) := by
 unfold rowF
 apply List.ext_getElem?
 intro j
 by_cases h : j < n
 · rw [List.getElem?_map, List.getElem?_range h, List.getElem?_replicate, if_pos h]; rfl
 · rw [List.getElem?_eq_none (by simp; omega), List.getElem?_eq_none (by simp; omega)]
def xr (x y : Int) : Int := bits .xor .u64 x y
def rot (x : Int) (k : Nat) : Int := bits .or .u64 (IntKind.u64.wrap (x * 2 ^ k)) (x / 2 ^ (64 - k))
def pF (a : Nat → Int) : Nat → Nat → Int
 | 0 => fun _ => 0
 | k + 1 => put (pF a k) (k % 5) (xr (pF a k (k % 5)) (a k))
def lane (a p : Nat → Int) (k : Nat) : Int := xr (a k) (xr (p ((k % 5 + 4) % 5)) (rot (p ((k % 5 + 1) % 5)) 1))
def bF (t : Nat → Nat) (a p : Nat → Int) : Nat → Nat → Int
 | 0 => fun _ => 0
 | k + 1 => put (bF t a p k) (k / 5 + 5 * ((2 * (k % 5) + 3 * (k / 5)) % 5)) (rot (lane a p k) (t k))
def aF (a b : Nat → Int) : Nat → Nat → Int
 | 0 => a
 | k + 1 => put (aF a b k) k (xr (b k) (bits .and .u64 (bits .xor .u64 18446744073709551615 (b (k - k % 5 + (k % 5 + 1) % 5))) (b (k - k % 5 + (k % 5 + 2) % 5))))
def qk_ (t : Nat → Nat) (c : Int) (a : Nat → Int) : Nat → Int := put (aF a (bF t a (pF a 25) 25) 25) 0 (xr (aF a (bF t a (pF a 25) 25) 25 0) c)
def jw_ (t : Nat → Nat) (c : Nat → Int) (a : Nat → Int) : Nat → Nat → Int
 | 0 => a
 | k + 1 => qk_ t (c k) (jw_ t c a k)
def mixF (s : List UInt8) (a : Nat → Int) : Nat → Nat → Int
 | 0 => a
 | k + 1 => put (mixF s a k) (k / 8) (xr (mixF s a k (k / 8)) (IntKind.u64.wrap (((s[k]?.getD 0).toNat : Int) * 2 ^ (8 * (k % 8)))))
def gf_ (t : Nat → Nat) (c : Nat → Int) (s : List UInt8) (a : Nat → Int) : Nat → Int := jw_ t c (mixF s a 136) 24
def e6_ (t : Nat → Nat) (c : Nat → Int) (s : List UInt8) : Nat → Nat → Int
 | 0 => fun _ => 0
 | k + 1 => gf_ t c ((s.drop (136 * k)).take 136) (e6_ t c s k)
def lastL (s : List UInt8) : List UInt8 := (((s ++ List.replicate (136 - s.length) 0).set s.length 6)).modify 135 fun x => x ||| 128
def mz_ (t : Nat → Nat) (c : Nat → Int) (s : List UInt8) : Nat → Int := gf_ t c (lastL (s.drop (136 * (s.length / 136)))) (e6_ t c s (s.length / 136))
def outB (a : Nat → Int) (k : Nat) : UInt8 := UInt8.ofNat ((a (k / 8) / 2 ^ (8 * (k % 8))) % 256).toNat
def sumL (t : Nat → Nat) (c : Nat → Int) (s : List UInt8) : List UInt8 := (List.range 32).map (outB (mz_ t c s))
theorem o6_ (t : Nat → Nat) (c : Nat → Int) (s : List UInt8) : (sumL t c s).length = 32 := by simp [sumL]
end Dig
section
open Go.RowKit Dig
attribute [local go_sem] ak_ af_
theorem srot (x : Int) (k : Nat) (hk : k < 64) (w : World) :
 Calls Tryz.prog 381 #[.int .u64 x, .int .i64 k] w fun e w' => e = .returned (.int .u64 (rot x k)) ∧ w = w' := by
 have h1 : bits .and .u64 (k : Int) 63 = (k : Int) := by
  have e : (63 : Int) = ((63 : Nat) : Int) := rfl
  rw [e, u64_and_nat k 63 (by omega) (by decide)]
  have := Nat.and_two_pow_sub_one_eq_mod k 6
  rw [show (2 : Nat) ^ 6 - 1 = 63 from rfl, show (2 : Nat) ^ 6 = 64 from rfl] at this
  rw [this, Nat.mod_eq_of_lt hk]
 go_enter Tryz.func381, Tryz.ntmps381
 go_wp2
 go_ret
 unfold rot
 exact ⟨rfl, rfl⟩
end
end Go.Proofs.YtacaejpamidkcaaGreatDoor
