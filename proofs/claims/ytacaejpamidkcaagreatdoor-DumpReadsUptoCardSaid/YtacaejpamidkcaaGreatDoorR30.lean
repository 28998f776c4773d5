/- image.coder: a row of depths. image.coder.info. -/
import Derived.Test.YtacaejpamidkcaaGreatDoorR29
set_option linter.unusedVariables false
set_option linter.unusedSimpArgs false
set_option maxRecDepth 100000
set_option maxHeartbeats 2000000
namespace Go.Proofs.YtacaejpamidkcaaGreatDoor
section
open Go.RowKit Wire
attribute [local go_sem] ak_ af_
def g8_ (T : TypeId) (c n : Nat) (ps : List (Nat × Nat)) (v : Value) (w : World) : Prop := ∃ g, v = .slice (some ⟨g, 0, none⟩) n n ∧ g ≠ c ∧ w.heap[g]? = some (.cells (gr_ ps).toArray T (0, 0))
theorem g8_.only {T : TypeId} {c n : Nat} {ps : List (Nat × Nat)} (v : Value) (w w' : World) (ho : Only (fun _ => False) w w') (h : g8_ T c n ps v w) : g8_ T c n ps v w' := by
 obtain ⟨g, h1, h2, h3⟩ := h
 exact ⟨g, h1, h2, ho.kept h3 id⟩
theorem Held.only {c : Nat} {w w' : World} {a : Nat × Nat} {x : Value} (h : Held c w a x) (ho : Only (fun _ => False) w w') : Held c w' a x := by
 obtain ⟨cs, t, h1, h2, h3, h4⟩ := h
 exact ⟨cs, t, ho.kept h1 id, h2, h3, h4⟩
theorem ax_ {w w' : World} (ho : Only (fun _ => False) w w') : Below w.heap.size w w' := ho.below (Nat.le_refl _) (fun k h => h.elim)
theorem cdepthF (B c q xb : Nat) (bs : List UInt8) (x0 x1 x2 x3 : Int) (w : World) (h : Cod B c bs w) (hB : B ≤ w.heap.size) (hq : Held c w (q, 0) (.pointer (some ⟨c, 0, none⟩))) (hx : w.heap[xb]? = some (.cells #[.int .i64 x0, .int .i64 x1, .int .i64 x2, .int .i64 x3] 110 (0, 0))) (hxc : xb ≠ c)
 (hi : I64 x0 ∧ I64 x1 ∧ I64 x2 ∧ I64 x3) (hlen : bs.length + ([x0, x1, x2, x3].map intL).flatten.length ≤ 140737488355328) :
 Calls Tryz.prog 394 #[.pointer (some ⟨xb, 0, none⟩), .pointer (some ⟨q, 0, none⟩)] w fun e w' => e = .returned (.tuple #[]) ∧ Cod B c (bs ++ ([x0, x1, x2, x3].map intL).flatten) w' ∧ Below B w w' ∧ an_ c w w' := by
 have y1 := hq.cell
 have lq : q < w.heap.size := World.block_lt_of_cell? _ _ y1
 have lc := a9_.lt h
 have lx := lt_of_block hx
 have HG := h5_ h hx hi hlen y1
 clear h hx hi hlen hq
 go_enter Tryz.func394, Tryz.ntmps394
 go_upto_region 0 with fail
 refine wq_ 14 [] (fun _ => False) [.pt c 0, .pt xb 0, .pt xb 0, .pt xb 0, .pt xb 0, .pt xb 0, .pt xb 1, .pt xb 0, .pt xb 0, .pt xb 2, .pt xb 0, .pt xb 0, .pt xb 3, .more (g8_ 215 c 4 [(xb, 0), (xb, 1), (xb, 2), (xb, 3)]) (fun v w w' ho h => h.only v w w' ho)] (fun _ _ => True) (by kernel_rfl) (by kernel_rfl) (trivial) ?_ ?_
 · simp only [a4_, List.take]
   refine ⟨?_, ?_, ?_, ?_, ?_, ?_, ?_, ?_, ?_, ?_, ?_, ?_, ?_, ?_, trivial⟩
   all_goals intro k a wr ho hJ hk hr hf hd
   · have h1 : zp_ a 1 q 0 := (hf 1).trans rfl
     have hc := (World.cell?_of_block (ho.block q lq id)).trans HG.out.2.2.2.2
     exact dp_ hJ (by simp [execOp, h1, hc, go_sem])
   · have h0 : zp_ a 0 xb 0 := (hf 0).trans rfl
     exact dp_ hJ (by simp [execOp, h0, go_sem])
   · have h4 : z_ a 4 _ := hd 1
     exact dp_ hJ (by simp [execOp, h4, go_sem])
   · have h5 : z_ a 5 _ := hd 2
     exact dp_ hJ (by simp [execOp, h5, go_sem])
   · have h0 : zp_ a 0 xb 0 := (hf 0).trans rfl
     exact dp_ hJ (by simp [execOp, h0, go_sem])
   · have h7 : z_ a 7 _ := hd 4
     exact dp_ hJ (by simp [execOp, h7, go_sem])
   · have h8 : z_ a 8 _ := hd 5
     exact dp_ hJ (by simp [execOp, h8, go_sem])
   · have h0 : zp_ a 0 xb 0 := (hf 0).trans rfl
     exact dp_ hJ (by simp [execOp, h0, go_sem])
   · have h10 : z_ a 10 _ := hd 7
     exact dp_ hJ (by simp [execOp, h10, go_sem])
   · have h11 : z_ a 11 _ := hd 8
     exact dp_ hJ (by simp [execOp, h11, go_sem])
   · have h0 : zp_ a 0 xb 0 := (hf 0).trans rfl
     exact dp_ hJ (by simp [execOp, h0, go_sem])
   · have h13 : z_ a 13 _ := hd 10
     exact dp_ hJ (by simp [execOp, h13, go_sem])
   · have h14 : z_ a 14 _ := hd 11
     exact dp_ hJ (by simp [execOp, h14, go_sem])
   · have h6 : z_ a 6 _ := hd 3
     have h9 : z_ a 9 _ := hd 6
     have h12 : z_ a 12 _ := hd 9
     have h15 : z_ a 15 _ := hd 12
     exact bc_ (v := .slice (some ⟨wr.heap.size, 0, none⟩) 4 4) (w' := wr.alloc (.cells (gr_ [(xb, 0), (xb, 1), (xb, 2), (xb, 3)]).toArray 215)) (by simp [execOp, h6, h9, h12, h15, go_sem, gr_]) ⟨⟨wr.heap.size, rfl, by have := ho.size; omega, heap_alloc_new _ _⟩, (Only.refl _ _).alloc _, hJ⟩
 · intro fv w2 ho2 hj hs
   have q16 := hs 13 (by decide)
   rw [seqv hs [3, 4, 5, 6, 7, 8, 9, 10, 11, 12, 13, 14, 15, 16] (by kernel_rfl)]
   simp only [actV, Act.put, List.drop, List.length, List.setIfInBounds_toArray, List.set_cons_zero, List.set_cons_succ]
   clear hs
   have hbel := ax_ ho2
   obtain ⟨g, hg, hgc, hrow⟩ : g8_ 215 c 4 [(xb, 0), (xb, 1), (xb, 2), (xb, 3)] (fv 16) _ := q16
   rw [hg]
   have hxw := (hbel.block _ lx).trans HG.out.2.1
   have hsz := hbel.size
   have hcod : Cod B c bs w2 := a9_.below HG.out.1 hbel
   clear hg ho2
   go_wp2_with fail
   refine (cints B c g bs [(xb, 0), (xb, 1), (xb, 2), (xb, 3)] [x0, x1, x2, x3] rfl (by simp) _ hcod (by omega) hrow hgc ?_ ?_ HG.out.2.2.2.1).mono ?_
   · intro i p x h1 h2
     match i with
     | 0 => cases h1; cases h2; exact ⟨_, _, hxw, hxc, by decide, rfl⟩
     | 1 => cases h1; cases h2; exact ⟨_, _, hxw, hxc, by decide, rfl⟩
     | 2 => cases h1; cases h2; exact ⟨_, _, hxw, hxc, by decide, rfl⟩
     | 3 => cases h1; cases h2; exact ⟨_, _, hxw, hxc, by decide, rfl⟩
     | i + 4 => simp at h1
   · intro i hi
     obtain ⟨a0, a1, a2, a3⟩ := HG.out.2.2.1
     match i, hi with
     | 0, _ => exact a0
     | 1, _ => exact a1
     | 2, _ => exact a2
     | 3, _ => exact a3
     | i + 4, hi => simp at hi; omega
   · rintro e w3 ⟨rfl, h1, h2, h3⟩
     have H3 := h3_ h1 ((hbel.mono hB).trans h2) ((an_.below hbel).trans h3)
     clear h1 h2 h3 hbel hcod hrow hxw
     go_wp2
     refine bodyPost_end (results_none rfl _ _ _) rfl ?_
     exact ⟨rfl, H3.out.1, H3.out.2.1, H3.out.2.2⟩
theorem o5_ (B c q gd : Nat) (bs : List UInt8) (ab ao : Nat) (w : World) (h : Cod B c bs w) (hB : B ≤ w.heap.size) (hx : Held c w (ab, ao) (.slice (some ⟨gd, 0, none⟩) 1 1)) (hd : Two.a5_ w gd) (hdc : gd ≠ c) (hq : Held c w (q, 0) (.pointer (some ⟨c, 0, none⟩))) (hlen : bs.length + 1000 ≤ 140737488355328) :
 Calls Tryz.prog 393 #[.pointer (some ⟨c, 0, none⟩), .pointer (some ⟨ab, ao, none⟩), .func (.func 394) #[] #[.pointer (some ⟨q, 0, none⟩)]] w fun e w' => e = .returned (.tuple #[]) ∧ Cod B c (bs ++ numL 1 ++ ([(0 : Int), 0, 80, 0].map intL).flatten) w' ∧ Below B w w' ∧ an_ c w w' := by
 have y1 := hx.cell
 have y2 := h.inn
 have HG := h6_ h hx hlen y1 hq hd
 have lc := a9_.lt h
 have lab : ab < w.heap.size := World.block_lt_of_cell? _ _ y1
 have l1 : (numL 1).length = 1 := by rw [cj_ (by decide)]; rfl
 have l2 : ([(0 : Int), 0, 80, 0].map intL).flatten.length ≤ 100 := by
  have e0 : intL 0 = [0] := by show numL _ = _; rw [cj_ (by decide)]; rfl
  have e80 : (intL 80).length ≤ 2 := by show (numL _).length ≤ 2; rw [g1_ (by decide), cj_ (by decide)]; simp
  simp [e0]; omega
 obtain ⟨L, hL⟩ : ∃ L, L = ([(0 : Int), 0, 80, 0].map intL).flatten := ⟨_, rfl⟩
 obtain ⟨N, hN⟩ : ∃ N, N = numL 1 := ⟨_, rfl⟩
 rw [← hL] at l2 ⊢
 rw [← hN] at l1 ⊢
 have HL := h1_ hL
 have HN := h1_ hN
 clear h hx hlen hq hd hL hN
 go_enter Tryz.func393, Tryz.ntmps393
 go_upto_region 1 with fail
 refine wq_ 8 [] (fun _ => False) [.pt c 0, .pt c 0, .pt c 0, .pt ab ao, .pt ab ao, .val (.slice (some ⟨gd, 0, none⟩) 1 1), .val (.int .i64 1), .val (strB N)] (fun _ _ => True) (by kernel_rfl) (by kernel_rfl) (trivial) ?_ ?_
 · simp only [a4_, List.take]
   refine ⟨?_, ?_, ?_, ?_, ?_, ?_, ?_, ?_, trivial⟩
   all_goals intro k a wr ho hJ hk hr hf hd
   · have h0 : zp_ a 0 c 0 := (hf 0).trans rfl
     exact dp_ hJ (by simp [execOp, h0, go_sem])
   · have h15 : z_ a 15 _ := hd 0
     exact dp_ hJ (by simp [execOp, h15, go_sem])
   · have h16 : z_ a 16 _ := hd 1
     exact dp_ hJ (by simp [execOp, h16, go_sem])
   · have h1 : zp_ a 1 ab ao := (hf 1).trans rfl
     exact dp_ hJ (by simp [execOp, h1, go_sem])
   · have h18 : z_ a 18 _ := hd 3
     exact dp_ hJ (by simp [execOp, h18, go_sem])
   · have h19 : z_ a 19 _ := hd 4
     have hc5 : wr.cell? ⟨ab, ao, none⟩ = some (.slice (some ⟨gd, 0, none⟩) 1 1) := (World.cell?_of_block (ho.block ab (World.block_lt_of_cell? _ _ HG.out.2.2.2.1) id)).trans HG.out.2.2.2.1
     exact dp_ hJ (by simp [execOp, h19, hc5, go_sem])
   · have h20 : z_ a 20 _ := hd 5
     exact dp_ hJ (by simp [execOp, h20, go_sem])
   · have h21 : z_ a 21 _ := hd 6
     refine a0_ (f := 15) (args := #[.int .i64 1]) (by simp [execOp, h21, go_sem]) ?_
     exact (wnum 1 (by decide) _).mono fun e w' ⟨hb, he⟩ => ⟨strB N, by rw [HN.out]; exact he, rfl, Only.of_below hb, trivial⟩
 · intro fv w2 ho2 hj hs
   rw [seqv hs [15, 16, 17, 18, 19, 20, 21, 22] (by kernel_rfl)]
   simp only [actV, Act.put, List.drop, List.length, List.setIfInBounds_toArray, List.set_cons_zero, List.set_cons_succ]
   clear hs
   have hbel : Below w.heap.size w w2 := ho2.below (Nat.le_refl _) (fun k h => h.elim)
   have hcod : Cod B c bs w2 := a9_.below HG.out.1 hbel
   have hlen : bs.length + N.length ≤ 140737488355328 := by have := HG.out.2.2.1; omega
   have sz2 := hbel.size
   have HB := h2_ (hbel.mono hB) (an_.below (b := c) hbel)
   clear hbel ho2
   go_wp2_with fail
   refine (c7_ 349 [.pointer none] e3_ B c _ N _ hcod hlen (by omega)).mono ?_
   rintro e w3 ⟨rfl, hcd, hbe, hkn⟩
   have hk3 := HB.out.2.trans hkn
   have y3 := (HG.out.2.1.keep hk3).cell
   have hd3 : Two.a5_ w3 gd := hk3.at_ HG.out.2.2.2.2.2 hdc (by decide)
   have c0 := ab_ hd3 0 rfl
   have c1 := ab_ hd3 1 rfl
   have c2 := ab_ hd3 2 rfl
   have c3 := ab_ hd3 3 rfl
   have sz3 := hbe.size
   have lc3 : c < w3.heap.size := a9_.lt hcd.is
   have H3 := h3_ hcd.is (HB.out.1.trans hbe) hk3
   clear hcd hbe hkn hlen hcod hk3 y1 y2 hd3
   go_wp2_with fail
   refine wp_loop_rounds 2 ?_
   rw [rounds_succ]
   go_wp2_with fail
   go_at_call 394
   have hb3 : Below w3.heap.size w3 (w3.alloc (.cells #[.int .i64 0, .int .i64 0, .int .i64 80, .int .i64 0] 110)) := (Below.refl _ _).alloc (Nat.le_refl _) _
   refine (cdepthF B c q w3.heap.size (bs ++ N) 0 0 80 0 _ (a9_.below H3.out.1 hb3) (by have := hb3.size; omega) ((HG.out.2.2.2.2.1.keep H3.out.2.2).keep (an_.below hb3)) (heap_alloc_new _ _) (by omega) ⟨⟨by decide, by decide⟩, ⟨by decide, by decide⟩, ⟨by decide, by decide⟩, ⟨by decide, by decide⟩⟩ (by rw [← HL.out, List.length_append]; have := HG.out.2.2.1; omega)).mono ?_
   rintro e w4 ⟨rfl, h1, h2, h3⟩
   rw [← HL.out] at h1
   have hk4 := H3.out.2.2.trans ((an_.below (b := c) hb3).trans h3)
   have y4 := (HG.out.2.1.keep hk4).cell
   have H4 := h3_ h1 (H3.out.2.1.trans ((hb3.mono (by omega)).trans h2)) hk4
   clear h1 h2 h3 hk4 hb3 y3 c0 c1 c2 c3
   go_wp2
   rw [rounds_succ]
   go_wp2
   refine bodyPost_ret (results_none rfl _ _ _) rfl ?_
   exact ⟨rfl, H4.out.1, H4.out.2.1, H4.out.2.2⟩
end
section
open Go.RowKit Wire
attribute [local go_sem] ak_ af_
def my_ : List UInt8 := numL 0 ++ numL 0 ++ numL 0 ++ numL 0 ++ numL 0 ++ numL 1 ++ ([(0 : Int), 0, 80, 0].map intL).flatten
theorem cinfo (B c gd : Nat) (bs : List UInt8) (ib io : Nat) (w : World) (h : Cod B c bs w) (hB : B ≤ w.heap.size) (hn : ∀ j, j < 5 → Held c w (ib, io + j) (.slice none 0 0)) (hx : Held c w (ib, io + 5) (.slice (some ⟨gd, 0, none⟩) 1 1)) (hd : Two.a5_ w gd) (hdc : gd ≠ c) (hlen : bs.length + 2000 ≤ 140737488355328) :
 Calls Tryz.prog 318 #[.pointer (some ⟨c, 0, none⟩), .pointer (some ⟨ib, io, none⟩)] w fun e w' => e = .returned (.tuple #[]) ∧ Cod B c (bs ++ my_) w' ∧ Below B w w' ∧ an_ c w w' := by
 have lc := a9_.lt h
 have HG := h5_ h hn hx hd hlen
 have l0 := bd_
 have hl2 := hlen
 clear h hn hx hd hlen
 go_enter Tryz.func318, Tryz.ntmps318
 go_upto_region 1 with fail
 refine ac_ fun v0 hW => ?_
 have hb0 : Below w.heap.size w v0 := by rw [← hW]; go_grown
 have hq0 : v0.heap[w.heap.size]? = some (.cells #[.pointer (some ⟨c, 0, none⟩)] 433 (0, 0)) := by rw [← hW]; exact heap_alloc_new _ _
 obtain ⟨q, hq⟩ : ∃ q, q = w.heap.size := ⟨_, rfl⟩
 have hqc : q ≠ c := by omega
 rw [← hq] at hq0 ⊢
 have hq1 : Held c v0 (q, 0) (.pointer (some ⟨c, 0, none⟩)) := ⟨_, _, hq0, hqc, by decide, rfl⟩
 have HQ := h1_ hq1
 have sz0 := hb0.size
 have h0 : Cod B c bs v0 ∧ Below B w v0 ∧ an_ c v0 v0 := ⟨a9_.below HG.out.1 hb0, hb0.mono hB, an_.refl _ _⟩
 have H0 := h1_ h0
 have HK0 := h1_ (an_.below (b := c) hb0)
 have HSQ := h1_ hq
 have yq := hq1.cell
 have lq : q < v0.heap.size := lt_of_block hq0
 clear hW hb0 hq0 hq1 h0 hq
 refine wq_ 5 [] (fun _ => False) [.pt c 0, .pt ib io, .pt ib io, .pt ib io, .val (.func (.func 384) #[] #[.pointer (some ⟨q, 0, none⟩)])] (fun _ _ => True) (by kernel_rfl) (by kernel_rfl) (trivial) ?_ ?_
 · simp only [a4_, List.take]
   refine ⟨?_, ?_, ?_, ?_, ?_, trivial⟩
   all_goals intro k a wr ho hJ hk hr hf hd
   · have h2 : zp_ a 2 q 0 := (hf 2).trans rfl
     have hc := (World.cell?_of_block (ho.block q lq id)).trans yq
     exact dp_ hJ (by simp [execOp, h2, hc, go_sem])
   · have h1 : zp_ a 1 ib io := (hf 1).trans rfl
     exact dp_ hJ (by simp [execOp, h1, go_sem])
   · have h5 : z_ a 5 _ := hd 1
     exact dp_ hJ (by simp [execOp, h5, go_sem])
   · have h6 : z_ a 6 _ := hd 2
     exact dp_ hJ (by simp [execOp, h6, go_sem])
   · have h2 : zp_ a 2 q 0 := (hf 2).trans rfl
     exact dp_ hJ (by simp [execOp, Act.eval, h2, go_sem])
 · intro fv x1 hox hj hs
   rw [seqv hs [4, 5, 6, 7, 8] (by kernel_rfl)]
   simp only [actV, Act.put, List.drop, List.length, List.setIfInBounds_toArray, List.set_cons_zero, List.set_cons_succ]
   clear hs
   have hbel := ax_ hox
   have szx := hbel.size
   have szv := H0.out.2.1.size
   have hkx : an_ c w x1 := HK0.out.trans (H0.out.2.2.trans (an_.below hbel))
   have hcx : Cod B c (bs) x1 := a9_.below H0.out.1 hbel
   have HX := h3_ hbel hkx hcx
   clear hbel hkx hcx hox
   go_wp2_with fail
   refine (r2_ B c (bs) ib (io) _ _ HX.out.2.2 (by omega) ((HG.out.2.1 0 (by decide)).keep HX.out.2.1) (by simp [l0]; omega)).mono ?_
   rintro e v1 ⟨rfl, h1, h2, h3⟩
   have H1 := h1_ (show Cod B c (bs ++ numL 0) v1 ∧ Below B w v1 ∧ an_ c v0 v1 from ⟨h1, H0.out.2.1.trans ((HX.out.1.mono (by omega)).trans h2), H0.out.2.2.trans ((an_.below HX.out.1).trans h3)⟩)
   clear yq lq
   have yq := (HQ.out.keep H1.out.2.2).cell
   have lq : q < v1.heap.size := World.block_lt_of_cell? _ _ yq
   clear h1 h2 h3 HX szx szv
   go_upto_region 2 with fail
   refine wq_ 5 [] (fun _ => False) [.pt c 0, .pt ib io, .pt ib io, .val (.pointer (some ⟨ib, io + 1, none⟩)), .val (.func (.func 386) #[] #[.pointer (some ⟨q, 0, none⟩)])] (fun _ _ => True) (by kernel_rfl) (by kernel_rfl) (trivial) ?_ ?_
   · simp only [a4_, List.take]
     refine ⟨?_, ?_, ?_, ?_, ?_, trivial⟩
     all_goals intro k a wr ho hJ hk hr hf hd
     · have h2 : zp_ a 2 q 0 := (hf 2).trans rfl
       have hc := (World.cell?_of_block (ho.block q lq id)).trans yq
       exact dp_ hJ (by simp [execOp, h2, hc, go_sem])
     · have h1 : zp_ a 1 ib io := (hf 1).trans rfl
       exact dp_ hJ (by simp [execOp, h1, go_sem])
     · have h11 : z_ a 11 _ := hd 1
       exact dp_ hJ (by simp [execOp, h11, go_sem])
     · have h12 : z_ a 12 _ := hd 2
       exact dp_ hJ (by simp [execOp, h12, go_sem])
     · have h2 : zp_ a 2 q 0 := (hf 2).trans rfl
       exact dp_ hJ (by simp [execOp, Act.eval, h2, go_sem])
   · intro fv x2 hox hj hs
     rw [seqv hs [10, 11, 12, 13, 14] (by kernel_rfl)]
     simp only [actV, Act.put, List.drop, List.length, List.setIfInBounds_toArray, List.set_cons_zero, List.set_cons_succ]
     clear hs
     have hbel := ax_ hox
     have szx := hbel.size
     have szv := H1.out.2.1.size
     have hkx : an_ c w x2 := HK0.out.trans (H1.out.2.2.trans (an_.below hbel))
     have hcx : Cod B c (bs ++ numL 0) x2 := a9_.below H1.out.1 hbel
     have HX := h3_ hbel hkx hcx
     clear hbel hkx hcx hox
     go_wp2_with fail
     refine (r3_ B c (bs ++ numL 0) ib (io + 1) _ _ HX.out.2.2 (by omega) ((HG.out.2.1 1 (by decide)).keep HX.out.2.1) (by simp [l0]; omega)).mono ?_
     rintro e v2 ⟨rfl, h1, h2, h3⟩
     have H2 := h1_ (show Cod B c (bs ++ numL 0 ++ numL 0) v2 ∧ Below B w v2 ∧ an_ c v0 v2 from ⟨h1, H1.out.2.1.trans ((HX.out.1.mono (by omega)).trans h2), H1.out.2.2.trans ((an_.below HX.out.1).trans h3)⟩)
     clear yq lq
     have yq := (HQ.out.keep H2.out.2.2).cell
     have lq : q < v2.heap.size := World.block_lt_of_cell? _ _ yq
     clear h1 h2 h3 HX szx szv
     go_upto_region 3 with fail
     refine wq_ 5 [] (fun _ => False) [.pt c 0, .pt ib io, .pt ib io, .val (.pointer (some ⟨ib, io + 2, none⟩)), .val (.func (.func 388) #[] #[.pointer (some ⟨q, 0, none⟩)])] (fun _ _ => True) (by kernel_rfl) (by kernel_rfl) (trivial) ?_ ?_
     · simp only [a4_, List.take]
       refine ⟨?_, ?_, ?_, ?_, ?_, trivial⟩
       all_goals intro k a wr ho hJ hk hr hf hd
       · have h2 : zp_ a 2 q 0 := (hf 2).trans rfl
         have hc := (World.cell?_of_block (ho.block q lq id)).trans yq
         exact dp_ hJ (by simp [execOp, h2, hc, go_sem])
       · have h1 : zp_ a 1 ib io := (hf 1).trans rfl
         exact dp_ hJ (by simp [execOp, h1, go_sem])
       · have h17 : z_ a 17 _ := hd 1
         exact dp_ hJ (by simp [execOp, h17, go_sem])
       · have h18 : z_ a 18 _ := hd 2
         exact dp_ hJ (by simp [execOp, h18, go_sem])
       · have h2 : zp_ a 2 q 0 := (hf 2).trans rfl
         exact dp_ hJ (by simp [execOp, Act.eval, h2, go_sem])
     · intro fv x3 hox hj hs
       rw [seqv hs [16, 17, 18, 19, 20] (by kernel_rfl)]
       simp only [actV, Act.put, List.drop, List.length, List.setIfInBounds_toArray, List.set_cons_zero, List.set_cons_succ]
       clear hs
       have hbel := ax_ hox
       have szx := hbel.size
       have szv := H2.out.2.1.size
       have hkx : an_ c w x3 := HK0.out.trans (H2.out.2.2.trans (an_.below hbel))
       have hcx : Cod B c (bs ++ numL 0 ++ numL 0) x3 := a9_.below H2.out.1 hbel
       have HX := h3_ hbel hkx hcx
       clear hbel hkx hcx hox
       go_wp2_with fail
       refine (r4_ B c (bs ++ numL 0 ++ numL 0) ib (io + 2) _ _ HX.out.2.2 (by omega) ((HG.out.2.1 2 (by decide)).keep HX.out.2.1) (by simp [l0]; omega)).mono ?_
       rintro e v3 ⟨rfl, h1, h2, h3⟩
       have H3 := h1_ (show Cod B c (bs ++ numL 0 ++ numL 0 ++ numL 0) v3 ∧ Below B w v3 ∧ an_ c v0 v3 from ⟨h1, H2.out.2.1.trans ((HX.out.1.mono (by omega)).trans h2), H2.out.2.2.trans ((an_.below HX.out.1).trans h3)⟩)
       clear yq lq
       have yq := (HQ.out.keep H3.out.2.2).cell
       have lq : q < v3.heap.size := World.block_lt_of_cell? _ _ yq
       clear h1 h2 h3 HX szx szv
       go_upto_region 4 with fail
       refine wq_ 5 [] (fun _ => False) [.pt c 0, .pt ib io, .pt ib io, .val (.pointer (some ⟨ib, io + 3, none⟩)), .val (.func (.func 390) #[] #[.pointer (some ⟨q, 0, none⟩)])] (fun _ _ => True) (by kernel_rfl) (by kernel_rfl) (trivial) ?_ ?_
       · simp only [a4_, List.take]
         refine ⟨?_, ?_, ?_, ?_, ?_, trivial⟩
         all_goals intro k a wr ho hJ hk hr hf hd
         · have h2 : zp_ a 2 q 0 := (hf 2).trans rfl
           have hc := (World.cell?_of_block (ho.block q lq id)).trans yq
           exact dp_ hJ (by simp [execOp, h2, hc, go_sem])
         · have h1 : zp_ a 1 ib io := (hf 1).trans rfl
           exact dp_ hJ (by simp [execOp, h1, go_sem])
         · have h23 : z_ a 23 _ := hd 1
           exact dp_ hJ (by simp [execOp, h23, go_sem])
         · have h24 : z_ a 24 _ := hd 2
           exact dp_ hJ (by simp [execOp, h24, go_sem])
         · have h2 : zp_ a 2 q 0 := (hf 2).trans rfl
           exact dp_ hJ (by simp [execOp, Act.eval, h2, go_sem])
       · intro fv x4 hox hj hs
         rw [seqv hs [22, 23, 24, 25, 26] (by kernel_rfl)]
         simp only [actV, Act.put, List.drop, List.length, List.setIfInBounds_toArray, List.set_cons_zero, List.set_cons_succ]
         clear hs
         have hbel := ax_ hox
         have szx := hbel.size
         have szv := H3.out.2.1.size
         have hkx : an_ c w x4 := HK0.out.trans (H3.out.2.2.trans (an_.below hbel))
         have hcx : Cod B c (bs ++ numL 0 ++ numL 0 ++ numL 0) x4 := a9_.below H3.out.1 hbel
         have HX := h3_ hbel hkx hcx
         clear hbel hkx hcx hox
         go_wp2_with fail
         refine (mx_ B c (bs ++ numL 0 ++ numL 0 ++ numL 0) ib (io + 3) _ _ HX.out.2.2 (by omega) ((HG.out.2.1 3 (by decide)).keep HX.out.2.1) (by simp [l0]; omega)).mono ?_
         rintro e v4 ⟨rfl, h1, h2, h3⟩
         have H4 := h1_ (show Cod B c (bs ++ numL 0 ++ numL 0 ++ numL 0 ++ numL 0) v4 ∧ Below B w v4 ∧ an_ c v0 v4 from ⟨h1, H3.out.2.1.trans ((HX.out.1.mono (by omega)).trans h2), H3.out.2.2.trans ((an_.below HX.out.1).trans h3)⟩)
         clear yq lq
         have yq := (HQ.out.keep H4.out.2.2).cell
         have lq : q < v4.heap.size := World.block_lt_of_cell? _ _ yq
         clear h1 h2 h3 HX szx szv
         go_upto_region 5 with fail
         refine wq_ 5 [] (fun _ => False) [.pt c 0, .pt ib io, .pt ib io, .val (.pointer (some ⟨ib, io + 4, none⟩)), .val (.func (.func 392) #[] #[.pointer (some ⟨q, 0, none⟩)])] (fun _ _ => True) (by kernel_rfl) (by kernel_rfl) (trivial) ?_ ?_
         · simp only [a4_, List.take]
           refine ⟨?_, ?_, ?_, ?_, ?_, trivial⟩
           all_goals intro k a wr ho hJ hk hr hf hd
           · have h2 : zp_ a 2 q 0 := (hf 2).trans rfl
             have hc := (World.cell?_of_block (ho.block q lq id)).trans yq
             exact dp_ hJ (by simp [execOp, h2, hc, go_sem])
           · have h1 : zp_ a 1 ib io := (hf 1).trans rfl
             exact dp_ hJ (by simp [execOp, h1, go_sem])
           · have h29 : z_ a 29 _ := hd 1
             exact dp_ hJ (by simp [execOp, h29, go_sem])
           · have h30 : z_ a 30 _ := hd 2
             exact dp_ hJ (by simp [execOp, h30, go_sem])
           · have h2 : zp_ a 2 q 0 := (hf 2).trans rfl
             exact dp_ hJ (by simp [execOp, Act.eval, h2, go_sem])
         · intro fv x5 hox hj hs
           rw [seqv hs [28, 29, 30, 31, 32] (by kernel_rfl)]
           simp only [actV, Act.put, List.drop, List.length, List.setIfInBounds_toArray, List.set_cons_zero, List.set_cons_succ]
           clear hs
           have hbel := ax_ hox
           have szx := hbel.size
           have szv := H4.out.2.1.size
           have hkx : an_ c w x5 := HK0.out.trans (H4.out.2.2.trans (an_.below hbel))
           have hcx : Cod B c (bs ++ numL 0 ++ numL 0 ++ numL 0 ++ numL 0) x5 := a9_.below H4.out.1 hbel
           have HX := h3_ hbel hkx hcx
           clear hbel hkx hcx hox
           go_wp2_with fail
           refine (uf_ B c (bs ++ numL 0 ++ numL 0 ++ numL 0 ++ numL 0) ib (io + 4) _ _ HX.out.2.2 (by omega) ((HG.out.2.1 4 (by decide)).keep HX.out.2.1) (by simp [l0]; omega)).mono ?_
           rintro e v5 ⟨rfl, h1, h2, h3⟩
           have H5 := h1_ (show Cod B c (bs ++ numL 0 ++ numL 0 ++ numL 0 ++ numL 0 ++ numL 0) v5 ∧ Below B w v5 ∧ an_ c v0 v5 from ⟨h1, H4.out.2.1.trans ((HX.out.1.mono (by omega)).trans h2), H4.out.2.2.trans ((an_.below HX.out.1).trans h3)⟩)
           clear yq lq
           have yq := (HQ.out.keep H5.out.2.2).cell
           have lq : q < v5.heap.size := World.block_lt_of_cell? _ _ yq
           clear h1 h2 h3 HX szx szv
           go_upto_region 6 with fail
           refine wq_ 5 [] (fun _ => False) [.pt c 0, .pt ib io, .pt ib io, .val (.pointer (some ⟨ib, io + 5, none⟩)), .val (.func (.func 394) #[] #[.pointer (some ⟨q, 0, none⟩)])] (fun _ _ => True) (by kernel_rfl) (by kernel_rfl) (trivial) ?_ ?_
           · simp only [a4_, List.take]
             refine ⟨?_, ?_, ?_, ?_, ?_, trivial⟩
             all_goals intro k a wr ho hJ hk hr hf hd
             · have h2 : zp_ a 2 q 0 := (hf 2).trans rfl
               have hc := (World.cell?_of_block (ho.block q lq id)).trans yq
               exact dp_ hJ (by simp [execOp, h2, hc, go_sem])
             · have h1 : zp_ a 1 ib io := (hf 1).trans rfl
               exact dp_ hJ (by simp [execOp, h1, go_sem])
             · have h35 : z_ a 35 _ := hd 1
               exact dp_ hJ (by simp [execOp, h35, go_sem])
             · have h36 : z_ a 36 _ := hd 2
               exact dp_ hJ (by simp [execOp, h36, go_sem])
             · have h2 : zp_ a 2 q 0 := (hf 2).trans rfl
               exact dp_ hJ (by simp [execOp, Act.eval, h2, go_sem])
           · intro fv x6 hox hj hs
             rw [seqv hs [34, 35, 36, 37, 38] (by kernel_rfl)]
             simp only [actV, Act.put, List.drop, List.length, List.setIfInBounds_toArray, List.set_cons_zero, List.set_cons_succ]
             clear hs
             have hbel := ax_ hox
             have szx := hbel.size
             have szv := H5.out.2.1.size
             have hkx : an_ c w x6 := HK0.out.trans (H5.out.2.2.trans (an_.below hbel))
             have hcx : Cod B c (bs ++ numL 0 ++ numL 0 ++ numL 0 ++ numL 0 ++ numL 0) x6 := a9_.below H5.out.1 hbel
             have HX := h3_ hbel hkx hcx
             clear hbel hkx hcx hox
             go_wp2_with fail
             have hq9 : Held c x6 (q, 0) (.pointer (some ⟨c, 0, none⟩)) := HQ.out.keep (H5.out.2.2.trans (an_.below HX.out.1))
             refine (o5_ B c q gd (bs ++ numL 0 ++ numL 0 ++ numL 0 ++ numL 0 ++ numL 0) ib (io + 5) _ HX.out.2.2 (by omega) (HG.out.2.2.1.keep HX.out.2.1) (HX.out.2.1.at_ HG.out.2.2.2.1 hdc (by decide)) hdc hq9 (by simp [l0]; omega)).mono ?_
             rintro e v6 ⟨rfl, h1, h2, h3⟩
             have H6 := h1_ (show Cod B c (bs ++ numL 0 ++ numL 0 ++ numL 0 ++ numL 0 ++ numL 0 ++ numL 1 ++ ([(0 : Int), 0, 80, 0].map intL).flatten) v6 ∧ Below B w v6 ∧ an_ c v0 v6 from ⟨h1, H5.out.2.1.trans ((HX.out.1.mono (by omega)).trans h2), H5.out.2.2.trans ((an_.below HX.out.1).trans h3)⟩)
             have HE := h1_ (HK0.out.trans H6.out.2.2)
             clear h1 h2 h3 HX szx szv yq lq
             go_wp2
             refine bodyPost_end (results_none rfl _ _ _) rfl ?_
             exact ⟨rfl, by unfold my_; simpa [List.append_assoc] using H6.out.1, H6.out.2.1, HE.out⟩
end
end Go.Proofs.YtacaejpamidkcaaGreatDoor
