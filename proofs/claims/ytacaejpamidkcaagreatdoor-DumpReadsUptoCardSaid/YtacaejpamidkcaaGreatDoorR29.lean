/- image.coder: bool. image.list[T] of no rows. -/
import Derived.Test.YtacaejpamidkcaaGreatDoorR27
import Derived.Test.YtacaejpamidkcaaGreatDoorR28
set_option linter.unusedVariables false
set_option linter.unusedSimpArgs false
set_option maxRecDepth 100000
set_option maxHeartbeats 1000000
namespace Go.Proofs.YtacaejpamidkcaaGreatDoor
section
open Go.RowKit Wire
attribute [local go_sem] ak_ af_
theorem ud_ {w : World} {b i : Nat} {cs : Array Value} {t : TypeId} {v : Value} (h : w.heap[b]? = some (.cells cs t (0, 0))) (hc : cs[i]? = some v) : (w.setCell ⟨b, i, none⟩ v).heap[b]? = some (.cells cs t (0, 0)) := by
 have h1 := aj_ (l := cs.toList) h i v
 have h2 : cs.toList.set i v = cs.toList := by
  apply List.ext_getElem?
  intro j
  rw [List.getElem?_set]
  by_cases e : i = j
  · subst e
    have hl := (Array.getElem?_eq_some_iff.1 hc).1
    have h3 : cs.toList[i]? = some v := by rw [← hc]; simp
    rw [h3]
    simp [hl]
  · simp [e]
 rw [h2] at h1
 exact h1
theorem cbool (B c : Nat) (bs : List UInt8) (ab ao : Nat) (b : Bool) (w : World) (h : Cod B c bs w) (hB : B ≤ w.heap.size) (hx : Held c w (ab, ao) (.bool b)) (hlen : bs.length + 10 ≤ 140737488355328) :
 Calls Tryz.prog 305 #[.pointer (some ⟨c, 0, none⟩), .pointer (some ⟨ab, ao, none⟩)] w fun e w' => e = .returned (.tuple #[]) ∧ Cod B c (bs ++ intL (if b then 1 else 0)) w' ∧ Below B w w' ∧ an_ c w w' := by
 have y1 := hx.cell
 have HG := h3_ h hx hlen
 have lc := a9_.lt h
 have lab : ab < w.heap.size := World.block_lt_of_cell? _ _ y1
 clear h hx hlen
 go_enter Tryz.func305, Tryz.ntmps305
 have hI : I64 (if b then (1 : Int) else 0) := by cases b <;> exact ⟨by decide, by decide⟩
 have hL : (intL (if b then 1 else 0)).length = 1 := by cases b <;> (show (numL _).length = 1; rw [cj_ (by decide)]; rfl)
 obtain ⟨n, hn⟩ : ∃ n : Int, n = if b then 1 else 0 := ⟨_, rfl⟩
 rw [← hn] at hI hL ⊢
 have hV0 : ∀ V0 : World, Below w.heap.size w V0 → V0.heap[w.heap.size]? = some (.cells #[.int .i64 n] 3 (0, 0)) →
  Calls Tryz.prog 302 #[.pointer (some ⟨c, 0, none⟩), .slice (some ⟨V0.heap.size, 0, none⟩) 1 1] (V0.alloc (.cells #[.pointer (some ⟨w.heap.size, 0, none⟩)] 215)) fun e w' => e = .returned (.tuple #[]) ∧ Cod B c (bs ++ intL n) w' ∧ Below B w w' ∧ an_ c w w' ∧ Held c w' (w.heap.size, 0) (.int .i64 n) := by
  intro V0 hB0 hn0
  have hb1 : Below V0.heap.size V0 (V0.alloc (.cells #[.pointer (some ⟨w.heap.size, 0, none⟩)] 215)) := (Below.refl _ _).alloc (Nat.le_refl _) _
  have hbw := hB0.trans (hb1.mono hB0.size)
  have hh : Held c (V0.alloc (.cells #[.pointer (some ⟨w.heap.size, 0, none⟩)] 215)) (w.heap.size, 0) (.int .i64 n) := ⟨_, _, ae_ hn0, by show w.heap.size ≠ c; omega, by decide, rfl⟩
  have hs0 := hB0.size
  refine (cints B c V0.heap.size bs [(w.heap.size, 0)] [n] rfl (by simp) _ (a9_.below HG.out.1 hbw) (by have := hbw.size; omega) (heap_alloc_new _ _) (by omega) ?_ ?_ ?_).mono ?_
  · intro i p x h1 h2
    match i with
    | 0 => cases h1; cases h2; exact hh
    | i + 1 => simp at h1
  · intro i hi
    obtain rfl : i = 0 := by simp at hi; omega
    exact hI
  · simp [hL]; have := HG.out.2.2; omega
  · rintro e w' ⟨rfl, h1, h2, h3⟩
    refine ⟨rfl, by simpa using h1, (hbw.mono hB).trans h2, (an_.below hbw).trans h3, hh.keep h3⟩
 have HV0 := h1_ hV0
 clear hV0
 cases b
 all_goals (
  go_upto_region 3 with fail
  refine ac_ fun V hV => ?_
  have vB : Below w.heap.size w V := by rw [← hV]; go_grown
  have vn : V.heap[w.heap.size]? = some (.cells #[.int .i64 n] 3 (0, 0)) := by rw [← hV, hn]; first | exact heap_alloc_new _ _ | exact aj_ (heap_alloc_new _ _) 0 _
  have HX := h2_ vB vn
  have HN := h1_ hn
  clear vB vn hV hn
  go_wp2_with fail
  refine (HV0.out V HX.out.1 HX.out.2).mono ?_
  rintro e w1 ⟨rfl, hc1, hb1, hk1, hh1⟩
  have z1 := hh1.cell
  rw [HN.out] at z1
  have hx1 := HG.out.2.1.keep hk1
  have HH := h4_ hc1 hb1 hk1 hx1
  have y3 := hx1.cell
  obtain ⟨cs, t, g1, g2, g3, g4⟩ := hx1
  have zf := ag_ g1 ao
  have HC := h4_ g1 g2 g3 g4
  clear hc1 hb1 hk1 hh1 g1 g2 g3 g4
  go_wp2_with fail
  obtain ⟨g1, g2, g3, g4⟩ := HC.out
  have hb2 := r0_ g1 ((Only.refl (· = ab) w1).setCell ⟨ab, ao, none⟩ _ (.inl rfl)) (ud_ g1 g4)
  have sz := HX.out.1.size
  have sz1 := HH.out.2.1.size
  refine bodyPost_end (results_none rfl _ _ _) rfl ?_
  exact ⟨rfl, a9_.below HH.out.1 hb2, HH.out.2.1.trans (hb2.mono (by omega)), HH.out.2.2.1.trans (an_.below hb2)⟩)
end
section
open Go.RowKit Wire
attribute [local go_sem] ak_ af_
theorem bd_ : (numL 0).length = 1 := by rw [cj_ (by decide)]; rfl
theorem mt_ (B c : Nat) (bs : List UInt8) (ab ao : Nat) (f : Value) (w : World) (h : Cod B c bs w) (hB : B ≤ w.heap.size) (hx : Held c w (ab, ao) (.slice none 0 0)) (hlen : bs.length + 10 ≤ 140737488355328) :
 Calls Tryz.prog 306 #[.pointer (some ⟨c, 0, none⟩), .pointer (some ⟨ab, ao, none⟩), f] w fun e w' => e = .returned (.tuple #[]) ∧ Cod B c (bs ++ numL 0) w' ∧ Below B w w' ∧ an_ c w w' := by
 have y1 := hx.cell
 have y2 := h.inn
 have HG := h4_ h hx hlen y1
 have lc := a9_.lt h
 have lab : ab < w.heap.size := World.block_lt_of_cell? _ _ y1
 clear h hx hlen
 go_enter Tryz.func306, Tryz.ntmps306
 go_upto_region 1 with fail
 refine wq_ 8 [] (fun _ => False) [.pt c 0, .pt c 0, .pt c 0, .pt ab ao, .pt ab ao, .val (.slice none 0 0), .val (.int .i64 0), .val (strB (numL 0))] (fun _ _ => True) (by kernel_rfl) (by kernel_rfl) (trivial) ?_ ?_
 · simp only [a4_, List.take]
   refine ⟨?_, ?_, ?_, ?_, ?_, ?_, ?_, ?_, trivial⟩
   all_goals intro k a wr ho hJ hk hr hf hd
   · have h0 : zp_ a 0 c 0 := (hf 0).trans rfl
     exact dp_ hJ (by simp [execOp, h0, go_sem])
   · have h15 : z_ a 15 _ := hd 0
     exact dp_ hJ (by simp [execOp, h15, go_sem])
   · have h16 : z_ a 16 _ := hd 1
     exact dp_ hJ (by simp [execOp, h16, go_sem])
   · have h1 : zp_ a 1 ab ao := (hf 1).trans rfl
     exact dp_ hJ (by simp [execOp, h1, go_sem])
   · have h18 : z_ a 18 _ := hd 3
     exact dp_ hJ (by simp [execOp, h18, go_sem])
   · have h19 : z_ a 19 _ := hd 4
     have hc5 : wr.cell? ⟨ab, ao, none⟩ = some (.slice none 0 0) := (World.cell?_of_block (ho.block ab (World.block_lt_of_cell? _ _ HG.out.2.2.2) id)).trans HG.out.2.2.2
     exact dp_ hJ (by simp [execOp, h19, hc5, go_sem])
   · have h20 : z_ a 20 _ := hd 5
     exact dp_ hJ (by simp [execOp, h20, go_sem])
   · have h21 : z_ a 21 _ := hd 6
     refine a0_ (f := 15) (args := #[.int .i64 0]) (by simp [execOp, h21, go_sem]) ?_
     exact (wnum 0 (by decide) _).mono fun e w' ⟨hb, he⟩ => ⟨_, he, rfl, Only.of_below hb, trivial⟩
 · intro fv w2 ho2 hj hs
   rw [seqv hs [15, 16, 17, 18, 19, 20, 21, 22] (by kernel_rfl)]
   simp only [actV, Act.put, List.drop, List.length, List.setIfInBounds_toArray, List.set_cons_zero, List.set_cons_succ]
   clear hs
   have hbel : Below w.heap.size w w2 := ho2.below (Nat.le_refl _) (fun k h => h.elim)
   have hcod : Cod B c bs w2 := a9_.below HG.out.1 hbel
   have hlen : bs.length + (numL 0).length ≤ 140737488355328 := by rw [bd_]; have := HG.out.2.2.1; omega
   have sz2 := hbel.size
   have HB := h3_ (hbel.mono hB) (an_.below (b := c) hbel) (HG.out.2.1.keep (an_.below hbel))
   clear hbel ho2
   go_wp2_with fail
   refine (c7_ 349 [.pointer none] e3_ B c _ (numL 0) _ hcod hlen (by omega)).mono ?_
   rintro e w3 ⟨rfl, hcd, hbe, hkn⟩
   have hx3 := HB.out.2.2.keep hkn
   have y3 := hx3.cell
   have H3 := h3_ hcd.is (HB.out.1.trans hbe) (HB.out.2.1.trans hkn)
   clear hcd hbe hkn hlen hcod hx3 y1 y2
   go_wp2_with fail
   go_loopw [28] (fun v wr => v = .int .i64 0 ∧ Cod B c (bs ++ numL 0) wr ∧ Below B w wr ∧ an_ c w wr) (fun _ _ => 0)
   case atStart => exact ⟨rfl, H3.out.1, H3.out.2.1, H3.out.2.2⟩
   case round =>
    obtain ⟨rfl, h1, h2, h3⟩ := hrel
    have H4 := h3_ h1 h2 h3
    clear h1 h2 h3 H3
    go_wp2
    refine bodyPost_ret (results_none rfl _ _ _) rfl ?_
    exact ⟨rfl, H4.out.1, H4.out.2.1, H4.out.2.2⟩
theorem mu_ (B c : Nat) (bs : List UInt8) (ab ao : Nat) (f : Value) (w : World) (h : Cod B c bs w) (hB : B ≤ w.heap.size) (hx : Held c w (ab, ao) (.slice none 0 0)) (hlen : bs.length + 10 ≤ 140737488355328) :
 Calls Tryz.prog 308 #[.pointer (some ⟨c, 0, none⟩), .pointer (some ⟨ab, ao, none⟩), f] w fun e w' => e = .returned (.tuple #[]) ∧ Cod B c (bs ++ numL 0) w' ∧ Below B w w' ∧ an_ c w w' := by
 have y1 := hx.cell
 have y2 := h.inn
 have HG := h4_ h hx hlen y1
 have lc := a9_.lt h
 have lab : ab < w.heap.size := World.block_lt_of_cell? _ _ y1
 clear h hx hlen
 go_enter Tryz.func308, Tryz.ntmps308
 go_upto_region 1 with fail
 refine wq_ 8 [] (fun _ => False) [.pt c 0, .pt c 0, .pt c 0, .pt ab ao, .pt ab ao, .val (.slice none 0 0), .val (.int .i64 0), .val (strB (numL 0))] (fun _ _ => True) (by kernel_rfl) (by kernel_rfl) (trivial) ?_ ?_
 · simp only [a4_, List.take]
   refine ⟨?_, ?_, ?_, ?_, ?_, ?_, ?_, ?_, trivial⟩
   all_goals intro k a wr ho hJ hk hr hf hd
   · have h0 : zp_ a 0 c 0 := (hf 0).trans rfl
     exact dp_ hJ (by simp [execOp, h0, go_sem])
   · have h15 : z_ a 15 _ := hd 0
     exact dp_ hJ (by simp [execOp, h15, go_sem])
   · have h16 : z_ a 16 _ := hd 1
     exact dp_ hJ (by simp [execOp, h16, go_sem])
   · have h1 : zp_ a 1 ab ao := (hf 1).trans rfl
     exact dp_ hJ (by simp [execOp, h1, go_sem])
   · have h18 : z_ a 18 _ := hd 3
     exact dp_ hJ (by simp [execOp, h18, go_sem])
   · have h19 : z_ a 19 _ := hd 4
     have hc5 : wr.cell? ⟨ab, ao, none⟩ = some (.slice none 0 0) := (World.cell?_of_block (ho.block ab (World.block_lt_of_cell? _ _ HG.out.2.2.2) id)).trans HG.out.2.2.2
     exact dp_ hJ (by simp [execOp, h19, hc5, go_sem])
   · have h20 : z_ a 20 _ := hd 5
     exact dp_ hJ (by simp [execOp, h20, go_sem])
   · have h21 : z_ a 21 _ := hd 6
     refine a0_ (f := 15) (args := #[.int .i64 0]) (by simp [execOp, h21, go_sem]) ?_
     exact (wnum 0 (by decide) _).mono fun e w' ⟨hb, he⟩ => ⟨_, he, rfl, Only.of_below hb, trivial⟩
 · intro fv w2 ho2 hj hs
   rw [seqv hs [15, 16, 17, 18, 19, 20, 21, 22] (by kernel_rfl)]
   simp only [actV, Act.put, List.drop, List.length, List.setIfInBounds_toArray, List.set_cons_zero, List.set_cons_succ]
   clear hs
   have hbel : Below w.heap.size w w2 := ho2.below (Nat.le_refl _) (fun k h => h.elim)
   have hcod : Cod B c bs w2 := a9_.below HG.out.1 hbel
   have hlen : bs.length + (numL 0).length ≤ 140737488355328 := by rw [bd_]; have := HG.out.2.2.1; omega
   have sz2 := hbel.size
   have HB := h3_ (hbel.mono hB) (an_.below (b := c) hbel) (HG.out.2.1.keep (an_.below hbel))
   clear hbel ho2
   go_wp2_with fail
   refine (c7_ 349 [.pointer none] e3_ B c _ (numL 0) _ hcod hlen (by omega)).mono ?_
   rintro e w3 ⟨rfl, hcd, hbe, hkn⟩
   have hx3 := HB.out.2.2.keep hkn
   have y3 := hx3.cell
   have H3 := h3_ hcd.is (HB.out.1.trans hbe) (HB.out.2.1.trans hkn)
   clear hcd hbe hkn hlen hcod hx3 y1 y2
   go_wp2_with fail
   go_loopw [28] (fun v wr => v = .int .i64 0 ∧ Cod B c (bs ++ numL 0) wr ∧ Below B w wr ∧ an_ c w wr) (fun _ _ => 0)
   case atStart => exact ⟨rfl, H3.out.1, H3.out.2.1, H3.out.2.2⟩
   case round =>
    obtain ⟨rfl, h1, h2, h3⟩ := hrel
    have H4 := h3_ h1 h2 h3
    clear h1 h2 h3 H3
    go_wp2
    refine bodyPost_ret (results_none rfl _ _ _) rfl ?_
    exact ⟨rfl, H4.out.1, H4.out.2.1, H4.out.2.2⟩
theorem mv_ (B c : Nat) (bs : List UInt8) (ab ao : Nat) (f : Value) (w : World) (h : Cod B c bs w) (hB : B ≤ w.heap.size) (hx : Held c w (ab, ao) (.slice none 0 0)) (hlen : bs.length + 10 ≤ 140737488355328) :
 Calls Tryz.prog 310 #[.pointer (some ⟨c, 0, none⟩), .pointer (some ⟨ab, ao, none⟩), f] w fun e w' => e = .returned (.tuple #[]) ∧ Cod B c (bs ++ numL 0) w' ∧ Below B w w' ∧ an_ c w w' := by
 have y1 := hx.cell
 have y2 := h.inn
 have HG := h4_ h hx hlen y1
 have lc := a9_.lt h
 have lab : ab < w.heap.size := World.block_lt_of_cell? _ _ y1
 clear h hx hlen
 go_enter Tryz.func310, Tryz.ntmps310
 go_upto_region 1 with fail
 refine wq_ 8 [] (fun _ => False) [.pt c 0, .pt c 0, .pt c 0, .pt ab ao, .pt ab ao, .val (.slice none 0 0), .val (.int .i64 0), .val (strB (numL 0))] (fun _ _ => True) (by kernel_rfl) (by kernel_rfl) (trivial) ?_ ?_
 · simp only [a4_, List.take]
   refine ⟨?_, ?_, ?_, ?_, ?_, ?_, ?_, ?_, trivial⟩
   all_goals intro k a wr ho hJ hk hr hf hd
   · have h0 : zp_ a 0 c 0 := (hf 0).trans rfl
     exact dp_ hJ (by simp [execOp, h0, go_sem])
   · have h15 : z_ a 15 _ := hd 0
     exact dp_ hJ (by simp [execOp, h15, go_sem])
   · have h16 : z_ a 16 _ := hd 1
     exact dp_ hJ (by simp [execOp, h16, go_sem])
   · have h1 : zp_ a 1 ab ao := (hf 1).trans rfl
     exact dp_ hJ (by simp [execOp, h1, go_sem])
   · have h18 : z_ a 18 _ := hd 3
     exact dp_ hJ (by simp [execOp, h18, go_sem])
   · have h19 : z_ a 19 _ := hd 4
     have hc5 : wr.cell? ⟨ab, ao, none⟩ = some (.slice none 0 0) := (World.cell?_of_block (ho.block ab (World.block_lt_of_cell? _ _ HG.out.2.2.2) id)).trans HG.out.2.2.2
     exact dp_ hJ (by simp [execOp, h19, hc5, go_sem])
   · have h20 : z_ a 20 _ := hd 5
     exact dp_ hJ (by simp [execOp, h20, go_sem])
   · have h21 : z_ a 21 _ := hd 6
     refine a0_ (f := 15) (args := #[.int .i64 0]) (by simp [execOp, h21, go_sem]) ?_
     exact (wnum 0 (by decide) _).mono fun e w' ⟨hb, he⟩ => ⟨_, he, rfl, Only.of_below hb, trivial⟩
 · intro fv w2 ho2 hj hs
   rw [seqv hs [15, 16, 17, 18, 19, 20, 21, 22] (by kernel_rfl)]
   simp only [actV, Act.put, List.drop, List.length, List.setIfInBounds_toArray, List.set_cons_zero, List.set_cons_succ]
   clear hs
   have hbel : Below w.heap.size w w2 := ho2.below (Nat.le_refl _) (fun k h => h.elim)
   have hcod : Cod B c bs w2 := a9_.below HG.out.1 hbel
   have hlen : bs.length + (numL 0).length ≤ 140737488355328 := by rw [bd_]; have := HG.out.2.2.1; omega
   have sz2 := hbel.size
   have HB := h3_ (hbel.mono hB) (an_.below (b := c) hbel) (HG.out.2.1.keep (an_.below hbel))
   clear hbel ho2
   go_wp2_with fail
   refine (c7_ 349 [.pointer none] e3_ B c _ (numL 0) _ hcod hlen (by omega)).mono ?_
   rintro e w3 ⟨rfl, hcd, hbe, hkn⟩
   have hx3 := HB.out.2.2.keep hkn
   have y3 := hx3.cell
   have H3 := h3_ hcd.is (HB.out.1.trans hbe) (HB.out.2.1.trans hkn)
   clear hcd hbe hkn hlen hcod hx3 y1 y2
   go_wp2_with fail
   go_loopw [28] (fun v wr => v = .int .i64 0 ∧ Cod B c (bs ++ numL 0) wr ∧ Below B w wr ∧ an_ c w wr) (fun _ _ => 0)
   case atStart => exact ⟨rfl, H3.out.1, H3.out.2.1, H3.out.2.2⟩
   case round =>
    obtain ⟨rfl, h1, h2, h3⟩ := hrel
    have H4 := h3_ h1 h2 h3
    clear h1 h2 h3 H3
    go_wp2
    refine bodyPost_ret (results_none rfl _ _ _) rfl ?_
    exact ⟨rfl, H4.out.1, H4.out.2.1, H4.out.2.2⟩
theorem hl_ (B c : Nat) (bs : List UInt8) (ab ao : Nat) (f : Value) (w : World) (h : Cod B c bs w) (hB : B ≤ w.heap.size) (hx : Held c w (ab, ao) (.slice none 0 0)) (hlen : bs.length + 10 ≤ 140737488355328) :
 Calls Tryz.prog 312 #[.pointer (some ⟨c, 0, none⟩), .pointer (some ⟨ab, ao, none⟩), f] w fun e w' => e = .returned (.tuple #[]) ∧ Cod B c (bs ++ numL 0) w' ∧ Below B w w' ∧ an_ c w w' := by
 have y1 := hx.cell
 have y2 := h.inn
 have HG := h4_ h hx hlen y1
 have lc := a9_.lt h
 have lab : ab < w.heap.size := World.block_lt_of_cell? _ _ y1
 clear h hx hlen
 go_enter Tryz.func312, Tryz.ntmps312
 go_upto_region 1 with fail
 refine wq_ 8 [] (fun _ => False) [.pt c 0, .pt c 0, .pt c 0, .pt ab ao, .pt ab ao, .val (.slice none 0 0), .val (.int .i64 0), .val (strB (numL 0))] (fun _ _ => True) (by kernel_rfl) (by kernel_rfl) (trivial) ?_ ?_
 · simp only [a4_, List.take]
   refine ⟨?_, ?_, ?_, ?_, ?_, ?_, ?_, ?_, trivial⟩
   all_goals intro k a wr ho hJ hk hr hf hd
   · have h0 : zp_ a 0 c 0 := (hf 0).trans rfl
     exact dp_ hJ (by simp [execOp, h0, go_sem])
   · have h15 : z_ a 15 _ := hd 0
     exact dp_ hJ (by simp [execOp, h15, go_sem])
   · have h16 : z_ a 16 _ := hd 1
     exact dp_ hJ (by simp [execOp, h16, go_sem])
   · have h1 : zp_ a 1 ab ao := (hf 1).trans rfl
     exact dp_ hJ (by simp [execOp, h1, go_sem])
   · have h18 : z_ a 18 _ := hd 3
     exact dp_ hJ (by simp [execOp, h18, go_sem])
   · have h19 : z_ a 19 _ := hd 4
     have hc5 : wr.cell? ⟨ab, ao, none⟩ = some (.slice none 0 0) := (World.cell?_of_block (ho.block ab (World.block_lt_of_cell? _ _ HG.out.2.2.2) id)).trans HG.out.2.2.2
     exact dp_ hJ (by simp [execOp, h19, hc5, go_sem])
   · have h20 : z_ a 20 _ := hd 5
     exact dp_ hJ (by simp [execOp, h20, go_sem])
   · have h21 : z_ a 21 _ := hd 6
     refine a0_ (f := 15) (args := #[.int .i64 0]) (by simp [execOp, h21, go_sem]) ?_
     exact (wnum 0 (by decide) _).mono fun e w' ⟨hb, he⟩ => ⟨_, he, rfl, Only.of_below hb, trivial⟩
 · intro fv w2 ho2 hj hs
   rw [seqv hs [15, 16, 17, 18, 19, 20, 21, 22] (by kernel_rfl)]
   simp only [actV, Act.put, List.drop, List.length, List.setIfInBounds_toArray, List.set_cons_zero, List.set_cons_succ]
   clear hs
   have hbel : Below w.heap.size w w2 := ho2.below (Nat.le_refl _) (fun k h => h.elim)
   have hcod : Cod B c bs w2 := a9_.below HG.out.1 hbel
   have hlen : bs.length + (numL 0).length ≤ 140737488355328 := by rw [bd_]; have := HG.out.2.2.1; omega
   have sz2 := hbel.size
   have HB := h3_ (hbel.mono hB) (an_.below (b := c) hbel) (HG.out.2.1.keep (an_.below hbel))
   clear hbel ho2
   go_wp2_with fail
   refine (c7_ 349 [.pointer none] e3_ B c _ (numL 0) _ hcod hlen (by omega)).mono ?_
   rintro e w3 ⟨rfl, hcd, hbe, hkn⟩
   have hx3 := HB.out.2.2.keep hkn
   have y3 := hx3.cell
   have H3 := h3_ hcd.is (HB.out.1.trans hbe) (HB.out.2.1.trans hkn)
   clear hcd hbe hkn hlen hcod hx3 y1 y2
   go_wp2_with fail
   go_loopw [28] (fun v wr => v = .int .i64 0 ∧ Cod B c (bs ++ numL 0) wr ∧ Below B w wr ∧ an_ c w wr) (fun _ _ => 0)
   case atStart => exact ⟨rfl, H3.out.1, H3.out.2.1, H3.out.2.2⟩
   case round =>
    obtain ⟨rfl, h1, h2, h3⟩ := hrel
    have H4 := h3_ h1 h2 h3
    clear h1 h2 h3 H3
    go_wp2
    refine bodyPost_ret (results_none rfl _ _ _) rfl ?_
    exact ⟨rfl, H4.out.1, H4.out.2.1, H4.out.2.2⟩
theorem ue_ (B c : Nat) (bs : List UInt8) (ab ao : Nat) (f : Value) (w : World) (h : Cod B c bs w) (hB : B ≤ w.heap.size) (hx : Held c w (ab, ao) (.slice none 0 0)) (hlen : bs.length + 10 ≤ 140737488355328) :
 Calls Tryz.prog 313 #[.pointer (some ⟨c, 0, none⟩), .pointer (some ⟨ab, ao, none⟩), f] w fun e w' => e = .returned (.tuple #[]) ∧ Cod B c (bs ++ numL 0) w' ∧ Below B w w' ∧ an_ c w w' := by
 have y1 := hx.cell
 have y2 := h.inn
 have HG := h4_ h hx hlen y1
 have lc := a9_.lt h
 have lab : ab < w.heap.size := World.block_lt_of_cell? _ _ y1
 clear h hx hlen
 go_enter Tryz.func313, Tryz.ntmps313
 go_upto_region 1 with fail
 refine wq_ 8 [] (fun _ => False) [.pt c 0, .pt c 0, .pt c 0, .pt ab ao, .pt ab ao, .val (.slice none 0 0), .val (.int .i64 0), .val (strB (numL 0))] (fun _ _ => True) (by kernel_rfl) (by kernel_rfl) (trivial) ?_ ?_
 · simp only [a4_, List.take]
   refine ⟨?_, ?_, ?_, ?_, ?_, ?_, ?_, ?_, trivial⟩
   all_goals intro k a wr ho hJ hk hr hf hd
   · have h0 : zp_ a 0 c 0 := (hf 0).trans rfl
     exact dp_ hJ (by simp [execOp, h0, go_sem])
   · have h15 : z_ a 15 _ := hd 0
     exact dp_ hJ (by simp [execOp, h15, go_sem])
   · have h16 : z_ a 16 _ := hd 1
     exact dp_ hJ (by simp [execOp, h16, go_sem])
   · have h1 : zp_ a 1 ab ao := (hf 1).trans rfl
     exact dp_ hJ (by simp [execOp, h1, go_sem])
   · have h18 : z_ a 18 _ := hd 3
     exact dp_ hJ (by simp [execOp, h18, go_sem])
   · have h19 : z_ a 19 _ := hd 4
     have hc5 : wr.cell? ⟨ab, ao, none⟩ = some (.slice none 0 0) := (World.cell?_of_block (ho.block ab (World.block_lt_of_cell? _ _ HG.out.2.2.2) id)).trans HG.out.2.2.2
     exact dp_ hJ (by simp [execOp, h19, hc5, go_sem])
   · have h20 : z_ a 20 _ := hd 5
     exact dp_ hJ (by simp [execOp, h20, go_sem])
   · have h21 : z_ a 21 _ := hd 6
     refine a0_ (f := 15) (args := #[.int .i64 0]) (by simp [execOp, h21, go_sem]) ?_
     exact (wnum 0 (by decide) _).mono fun e w' ⟨hb, he⟩ => ⟨_, he, rfl, Only.of_below hb, trivial⟩
 · intro fv w2 ho2 hj hs
   rw [seqv hs [15, 16, 17, 18, 19, 20, 21, 22] (by kernel_rfl)]
   simp only [actV, Act.put, List.drop, List.length, List.setIfInBounds_toArray, List.set_cons_zero, List.set_cons_succ]
   clear hs
   have hbel : Below w.heap.size w w2 := ho2.below (Nat.le_refl _) (fun k h => h.elim)
   have hcod : Cod B c bs w2 := a9_.below HG.out.1 hbel
   have hlen : bs.length + (numL 0).length ≤ 140737488355328 := by rw [bd_]; have := HG.out.2.2.1; omega
   have sz2 := hbel.size
   have HB := h3_ (hbel.mono hB) (an_.below (b := c) hbel) (HG.out.2.1.keep (an_.below hbel))
   clear hbel ho2
   go_wp2_with fail
   refine (c7_ 349 [.pointer none] e3_ B c _ (numL 0) _ hcod hlen (by omega)).mono ?_
   rintro e w3 ⟨rfl, hcd, hbe, hkn⟩
   have hx3 := HB.out.2.2.keep hkn
   have y3 := hx3.cell
   have H3 := h3_ hcd.is (HB.out.1.trans hbe) (HB.out.2.1.trans hkn)
   clear hcd hbe hkn hlen hcod hx3 y1 y2
   go_wp2_with fail
   go_loopw [28] (fun v wr => v = .int .i64 0 ∧ Cod B c (bs ++ numL 0) wr ∧ Below B w wr ∧ an_ c w wr) (fun _ _ => 0)
   case atStart => exact ⟨rfl, H3.out.1, H3.out.2.1, H3.out.2.2⟩
   case round =>
    obtain ⟨rfl, h1, h2, h3⟩ := hrel
    have H4 := h3_ h1 h2 h3
    clear h1 h2 h3 H3
    go_wp2
    refine bodyPost_ret (results_none rfl _ _ _) rfl ?_
    exact ⟨rfl, H4.out.1, H4.out.2.1, H4.out.2.2⟩
theorem mw_ (B c : Nat) (bs : List UInt8) (ab ao : Nat) (f : Value) (w : World) (h : Cod B c bs w) (hB : B ≤ w.heap.size) (hx : Held c w (ab, ao) (.slice none 0 0)) (hlen : bs.length + 10 ≤ 140737488355328) :
 Calls Tryz.prog 315 #[.pointer (some ⟨c, 0, none⟩), .pointer (some ⟨ab, ao, none⟩), f] w fun e w' => e = .returned (.tuple #[]) ∧ Cod B c (bs ++ numL 0) w' ∧ Below B w w' ∧ an_ c w w' := by
 have y1 := hx.cell
 have y2 := h.inn
 have HG := h4_ h hx hlen y1
 have lc := a9_.lt h
 have lab : ab < w.heap.size := World.block_lt_of_cell? _ _ y1
 clear h hx hlen
 go_enter Tryz.func315, Tryz.ntmps315
 go_upto_region 1 with fail
 refine wq_ 8 [] (fun _ => False) [.pt c 0, .pt c 0, .pt c 0, .pt ab ao, .pt ab ao, .val (.slice none 0 0), .val (.int .i64 0), .val (strB (numL 0))] (fun _ _ => True) (by kernel_rfl) (by kernel_rfl) (trivial) ?_ ?_
 · simp only [a4_, List.take]
   refine ⟨?_, ?_, ?_, ?_, ?_, ?_, ?_, ?_, trivial⟩
   all_goals intro k a wr ho hJ hk hr hf hd
   · have h0 : zp_ a 0 c 0 := (hf 0).trans rfl
     exact dp_ hJ (by simp [execOp, h0, go_sem])
   · have h15 : z_ a 15 _ := hd 0
     exact dp_ hJ (by simp [execOp, h15, go_sem])
   · have h16 : z_ a 16 _ := hd 1
     exact dp_ hJ (by simp [execOp, h16, go_sem])
   · have h1 : zp_ a 1 ab ao := (hf 1).trans rfl
     exact dp_ hJ (by simp [execOp, h1, go_sem])
   · have h18 : z_ a 18 _ := hd 3
     exact dp_ hJ (by simp [execOp, h18, go_sem])
   · have h19 : z_ a 19 _ := hd 4
     have hc5 : wr.cell? ⟨ab, ao, none⟩ = some (.slice none 0 0) := (World.cell?_of_block (ho.block ab (World.block_lt_of_cell? _ _ HG.out.2.2.2) id)).trans HG.out.2.2.2
     exact dp_ hJ (by simp [execOp, h19, hc5, go_sem])
   · have h20 : z_ a 20 _ := hd 5
     exact dp_ hJ (by simp [execOp, h20, go_sem])
   · have h21 : z_ a 21 _ := hd 6
     refine a0_ (f := 15) (args := #[.int .i64 0]) (by simp [execOp, h21, go_sem]) ?_
     exact (wnum 0 (by decide) _).mono fun e w' ⟨hb, he⟩ => ⟨_, he, rfl, Only.of_below hb, trivial⟩
 · intro fv w2 ho2 hj hs
   rw [seqv hs [15, 16, 17, 18, 19, 20, 21, 22] (by kernel_rfl)]
   simp only [actV, Act.put, List.drop, List.length, List.setIfInBounds_toArray, List.set_cons_zero, List.set_cons_succ]
   clear hs
   have hbel : Below w.heap.size w w2 := ho2.below (Nat.le_refl _) (fun k h => h.elim)
   have hcod : Cod B c bs w2 := a9_.below HG.out.1 hbel
   have hlen : bs.length + (numL 0).length ≤ 140737488355328 := by rw [bd_]; have := HG.out.2.2.1; omega
   have sz2 := hbel.size
   have HB := h3_ (hbel.mono hB) (an_.below (b := c) hbel) (HG.out.2.1.keep (an_.below hbel))
   clear hbel ho2
   go_wp2_with fail
   refine (c7_ 349 [.pointer none] e3_ B c _ (numL 0) _ hcod hlen (by omega)).mono ?_
   rintro e w3 ⟨rfl, hcd, hbe, hkn⟩
   have hx3 := HB.out.2.2.keep hkn
   have y3 := hx3.cell
   have H3 := h3_ hcd.is (HB.out.1.trans hbe) (HB.out.2.1.trans hkn)
   clear hcd hbe hkn hlen hcod hx3 y1 y2
   go_wp2_with fail
   go_loopw [28] (fun v wr => v = .int .i64 0 ∧ Cod B c (bs ++ numL 0) wr ∧ Below B w wr ∧ an_ c w wr) (fun _ _ => 0)
   case atStart => exact ⟨rfl, H3.out.1, H3.out.2.1, H3.out.2.2⟩
   case round =>
    obtain ⟨rfl, h1, h2, h3⟩ := hrel
    have H4 := h3_ h1 h2 h3
    clear h1 h2 h3 H3
    go_wp2
    refine bodyPost_ret (results_none rfl _ _ _) rfl ?_
    exact ⟨rfl, H4.out.1, H4.out.2.1, H4.out.2.2⟩
theorem ir_ (B c : Nat) (bs : List UInt8) (ab ao : Nat) (f : Value) (w : World) (h : Cod B c bs w) (hB : B ≤ w.heap.size) (hx : Held c w (ab, ao) (.slice none 0 0)) (hlen : bs.length + 10 ≤ 140737488355328) :
 Calls Tryz.prog 316 #[.pointer (some ⟨c, 0, none⟩), .pointer (some ⟨ab, ao, none⟩), f] w fun e w' => e = .returned (.tuple #[]) ∧ Cod B c (bs ++ numL 0) w' ∧ Below B w w' ∧ an_ c w w' := by
 have y1 := hx.cell
 have y2 := h.inn
 have HG := h4_ h hx hlen y1
 have lc := a9_.lt h
 have lab : ab < w.heap.size := World.block_lt_of_cell? _ _ y1
 clear h hx hlen
 go_enter Tryz.func316, Tryz.ntmps316
 go_upto_region 1 with fail
 refine wq_ 8 [] (fun _ => False) [.pt c 0, .pt c 0, .pt c 0, .pt ab ao, .pt ab ao, .val (.slice none 0 0), .val (.int .i64 0), .val (strB (numL 0))] (fun _ _ => True) (by kernel_rfl) (by kernel_rfl) (trivial) ?_ ?_
 · simp only [a4_, List.take]
   refine ⟨?_, ?_, ?_, ?_, ?_, ?_, ?_, ?_, trivial⟩
   all_goals intro k a wr ho hJ hk hr hf hd
   · have h0 : zp_ a 0 c 0 := (hf 0).trans rfl
     exact dp_ hJ (by simp [execOp, h0, go_sem])
   · have h15 : z_ a 15 _ := hd 0
     exact dp_ hJ (by simp [execOp, h15, go_sem])
   · have h16 : z_ a 16 _ := hd 1
     exact dp_ hJ (by simp [execOp, h16, go_sem])
   · have h1 : zp_ a 1 ab ao := (hf 1).trans rfl
     exact dp_ hJ (by simp [execOp, h1, go_sem])
   · have h18 : z_ a 18 _ := hd 3
     exact dp_ hJ (by simp [execOp, h18, go_sem])
   · have h19 : z_ a 19 _ := hd 4
     have hc5 : wr.cell? ⟨ab, ao, none⟩ = some (.slice none 0 0) := (World.cell?_of_block (ho.block ab (World.block_lt_of_cell? _ _ HG.out.2.2.2) id)).trans HG.out.2.2.2
     exact dp_ hJ (by simp [execOp, h19, hc5, go_sem])
   · have h20 : z_ a 20 _ := hd 5
     exact dp_ hJ (by simp [execOp, h20, go_sem])
   · have h21 : z_ a 21 _ := hd 6
     refine a0_ (f := 15) (args := #[.int .i64 0]) (by simp [execOp, h21, go_sem]) ?_
     exact (wnum 0 (by decide) _).mono fun e w' ⟨hb, he⟩ => ⟨_, he, rfl, Only.of_below hb, trivial⟩
 · intro fv w2 ho2 hj hs
   rw [seqv hs [15, 16, 17, 18, 19, 20, 21, 22] (by kernel_rfl)]
   simp only [actV, Act.put, List.drop, List.length, List.setIfInBounds_toArray, List.set_cons_zero, List.set_cons_succ]
   clear hs
   have hbel : Below w.heap.size w w2 := ho2.below (Nat.le_refl _) (fun k h => h.elim)
   have hcod : Cod B c bs w2 := a9_.below HG.out.1 hbel
   have hlen : bs.length + (numL 0).length ≤ 140737488355328 := by rw [bd_]; have := HG.out.2.2.1; omega
   have sz2 := hbel.size
   have HB := h3_ (hbel.mono hB) (an_.below (b := c) hbel) (HG.out.2.1.keep (an_.below hbel))
   clear hbel ho2
   go_wp2_with fail
   refine (c7_ 349 [.pointer none] e3_ B c _ (numL 0) _ hcod hlen (by omega)).mono ?_
   rintro e w3 ⟨rfl, hcd, hbe, hkn⟩
   have hx3 := HB.out.2.2.keep hkn
   have y3 := hx3.cell
   have H3 := h3_ hcd.is (HB.out.1.trans hbe) (HB.out.2.1.trans hkn)
   clear hcd hbe hkn hlen hcod hx3 y1 y2
   go_wp2_with fail
   go_loopw [28] (fun v wr => v = .int .i64 0 ∧ Cod B c (bs ++ numL 0) wr ∧ Below B w wr ∧ an_ c w wr) (fun _ _ => 0)
   case atStart => exact ⟨rfl, H3.out.1, H3.out.2.1, H3.out.2.2⟩
   case round =>
    obtain ⟨rfl, h1, h2, h3⟩ := hrel
    have H4 := h3_ h1 h2 h3
    clear h1 h2 h3 H3
    go_wp2
    refine bodyPost_ret (results_none rfl _ _ _) rfl ?_
    exact ⟨rfl, H4.out.1, H4.out.2.1, H4.out.2.2⟩
theorem r1_ (B c : Nat) (bs : List UInt8) (ab ao : Nat) (f : Value) (w : World) (h : Cod B c bs w) (hB : B ≤ w.heap.size) (hx : Held c w (ab, ao) (.slice none 0 0)) (hlen : bs.length + 10 ≤ 140737488355328) :
 Calls Tryz.prog 319 #[.pointer (some ⟨c, 0, none⟩), .pointer (some ⟨ab, ao, none⟩), f] w fun e w' => e = .returned (.tuple #[]) ∧ Cod B c (bs ++ numL 0) w' ∧ Below B w w' ∧ an_ c w w' := by
 have y1 := hx.cell
 have y2 := h.inn
 have HG := h4_ h hx hlen y1
 have lc := a9_.lt h
 have lab : ab < w.heap.size := World.block_lt_of_cell? _ _ y1
 clear h hx hlen
 go_enter Tryz.func319, Tryz.ntmps319
 go_upto_region 1 with fail
 refine wq_ 8 [] (fun _ => False) [.pt c 0, .pt c 0, .pt c 0, .pt ab ao, .pt ab ao, .val (.slice none 0 0), .val (.int .i64 0), .val (strB (numL 0))] (fun _ _ => True) (by kernel_rfl) (by kernel_rfl) (trivial) ?_ ?_
 · simp only [a4_, List.take]
   refine ⟨?_, ?_, ?_, ?_, ?_, ?_, ?_, ?_, trivial⟩
   all_goals intro k a wr ho hJ hk hr hf hd
   · have h0 : zp_ a 0 c 0 := (hf 0).trans rfl
     exact dp_ hJ (by simp [execOp, h0, go_sem])
   · have h15 : z_ a 15 _ := hd 0
     exact dp_ hJ (by simp [execOp, h15, go_sem])
   · have h16 : z_ a 16 _ := hd 1
     exact dp_ hJ (by simp [execOp, h16, go_sem])
   · have h1 : zp_ a 1 ab ao := (hf 1).trans rfl
     exact dp_ hJ (by simp [execOp, h1, go_sem])
   · have h18 : z_ a 18 _ := hd 3
     exact dp_ hJ (by simp [execOp, h18, go_sem])
   · have h19 : z_ a 19 _ := hd 4
     have hc5 : wr.cell? ⟨ab, ao, none⟩ = some (.slice none 0 0) := (World.cell?_of_block (ho.block ab (World.block_lt_of_cell? _ _ HG.out.2.2.2) id)).trans HG.out.2.2.2
     exact dp_ hJ (by simp [execOp, h19, hc5, go_sem])
   · have h20 : z_ a 20 _ := hd 5
     exact dp_ hJ (by simp [execOp, h20, go_sem])
   · have h21 : z_ a 21 _ := hd 6
     refine a0_ (f := 15) (args := #[.int .i64 0]) (by simp [execOp, h21, go_sem]) ?_
     exact (wnum 0 (by decide) _).mono fun e w' ⟨hb, he⟩ => ⟨_, he, rfl, Only.of_below hb, trivial⟩
 · intro fv w2 ho2 hj hs
   rw [seqv hs [15, 16, 17, 18, 19, 20, 21, 22] (by kernel_rfl)]
   simp only [actV, Act.put, List.drop, List.length, List.setIfInBounds_toArray, List.set_cons_zero, List.set_cons_succ]
   clear hs
   have hbel : Below w.heap.size w w2 := ho2.below (Nat.le_refl _) (fun k h => h.elim)
   have hcod : Cod B c bs w2 := a9_.below HG.out.1 hbel
   have hlen : bs.length + (numL 0).length ≤ 140737488355328 := by rw [bd_]; have := HG.out.2.2.1; omega
   have sz2 := hbel.size
   have HB := h3_ (hbel.mono hB) (an_.below (b := c) hbel) (HG.out.2.1.keep (an_.below hbel))
   clear hbel ho2
   go_wp2_with fail
   refine (c7_ 349 [.pointer none] e3_ B c _ (numL 0) _ hcod hlen (by omega)).mono ?_
   rintro e w3 ⟨rfl, hcd, hbe, hkn⟩
   have hx3 := HB.out.2.2.keep hkn
   have y3 := hx3.cell
   have H3 := h3_ hcd.is (HB.out.1.trans hbe) (HB.out.2.1.trans hkn)
   clear hcd hbe hkn hlen hcod hx3 y1 y2
   go_wp2_with fail
   go_loopw [28] (fun v wr => v = .int .i64 0 ∧ Cod B c (bs ++ numL 0) wr ∧ Below B w wr ∧ an_ c w wr) (fun _ _ => 0)
   case atStart => exact ⟨rfl, H3.out.1, H3.out.2.1, H3.out.2.2⟩
   case round =>
    obtain ⟨rfl, h1, h2, h3⟩ := hrel
    have H4 := h3_ h1 h2 h3
    clear h1 h2 h3 H3
    go_wp2
    refine bodyPost_ret (results_none rfl _ _ _) rfl ?_
    exact ⟨rfl, H4.out.1, H4.out.2.1, H4.out.2.2⟩
theorem r2_ (B c : Nat) (bs : List UInt8) (ab ao : Nat) (f : Value) (w : World) (h : Cod B c bs w) (hB : B ≤ w.heap.size) (hx : Held c w (ab, ao) (.slice none 0 0)) (hlen : bs.length + 10 ≤ 140737488355328) :
 Calls Tryz.prog 383 #[.pointer (some ⟨c, 0, none⟩), .pointer (some ⟨ab, ao, none⟩), f] w fun e w' => e = .returned (.tuple #[]) ∧ Cod B c (bs ++ numL 0) w' ∧ Below B w w' ∧ an_ c w w' := by
 have y1 := hx.cell
 have y2 := h.inn
 have HG := h4_ h hx hlen y1
 have lc := a9_.lt h
 have lab : ab < w.heap.size := World.block_lt_of_cell? _ _ y1
 clear h hx hlen
 go_enter Tryz.func383, Tryz.ntmps383
 go_upto_region 1 with fail
 refine wq_ 8 [] (fun _ => False) [.pt c 0, .pt c 0, .pt c 0, .pt ab ao, .pt ab ao, .val (.slice none 0 0), .val (.int .i64 0), .val (strB (numL 0))] (fun _ _ => True) (by kernel_rfl) (by kernel_rfl) (trivial) ?_ ?_
 · simp only [a4_, List.take]
   refine ⟨?_, ?_, ?_, ?_, ?_, ?_, ?_, ?_, trivial⟩
   all_goals intro k a wr ho hJ hk hr hf hd
   · have h0 : zp_ a 0 c 0 := (hf 0).trans rfl
     exact dp_ hJ (by simp [execOp, h0, go_sem])
   · have h15 : z_ a 15 _ := hd 0
     exact dp_ hJ (by simp [execOp, h15, go_sem])
   · have h16 : z_ a 16 _ := hd 1
     exact dp_ hJ (by simp [execOp, h16, go_sem])
   · have h1 : zp_ a 1 ab ao := (hf 1).trans rfl
     exact dp_ hJ (by simp [execOp, h1, go_sem])
   · have h18 : z_ a 18 _ := hd 3
     exact dp_ hJ (by simp [execOp, h18, go_sem])
   · have h19 : z_ a 19 _ := hd 4
     have hc5 : wr.cell? ⟨ab, ao, none⟩ = some (.slice none 0 0) := (World.cell?_of_block (ho.block ab (World.block_lt_of_cell? _ _ HG.out.2.2.2) id)).trans HG.out.2.2.2
     exact dp_ hJ (by simp [execOp, h19, hc5, go_sem])
   · have h20 : z_ a 20 _ := hd 5
     exact dp_ hJ (by simp [execOp, h20, go_sem])
   · have h21 : z_ a 21 _ := hd 6
     refine a0_ (f := 15) (args := #[.int .i64 0]) (by simp [execOp, h21, go_sem]) ?_
     exact (wnum 0 (by decide) _).mono fun e w' ⟨hb, he⟩ => ⟨_, he, rfl, Only.of_below hb, trivial⟩
 · intro fv w2 ho2 hj hs
   rw [seqv hs [15, 16, 17, 18, 19, 20, 21, 22] (by kernel_rfl)]
   simp only [actV, Act.put, List.drop, List.length, List.setIfInBounds_toArray, List.set_cons_zero, List.set_cons_succ]
   clear hs
   have hbel : Below w.heap.size w w2 := ho2.below (Nat.le_refl _) (fun k h => h.elim)
   have hcod : Cod B c bs w2 := a9_.below HG.out.1 hbel
   have hlen : bs.length + (numL 0).length ≤ 140737488355328 := by rw [bd_]; have := HG.out.2.2.1; omega
   have sz2 := hbel.size
   have HB := h3_ (hbel.mono hB) (an_.below (b := c) hbel) (HG.out.2.1.keep (an_.below hbel))
   clear hbel ho2
   go_wp2_with fail
   refine (c7_ 349 [.pointer none] e3_ B c _ (numL 0) _ hcod hlen (by omega)).mono ?_
   rintro e w3 ⟨rfl, hcd, hbe, hkn⟩
   have hx3 := HB.out.2.2.keep hkn
   have y3 := hx3.cell
   have H3 := h3_ hcd.is (HB.out.1.trans hbe) (HB.out.2.1.trans hkn)
   clear hcd hbe hkn hlen hcod hx3 y1 y2
   go_wp2_with fail
   go_loopw [28] (fun v wr => v = .int .i64 0 ∧ Cod B c (bs ++ numL 0) wr ∧ Below B w wr ∧ an_ c w wr) (fun _ _ => 0)
   case atStart => exact ⟨rfl, H3.out.1, H3.out.2.1, H3.out.2.2⟩
   case round =>
    obtain ⟨rfl, h1, h2, h3⟩ := hrel
    have H4 := h3_ h1 h2 h3
    clear h1 h2 h3 H3
    go_wp2
    refine bodyPost_ret (results_none rfl _ _ _) rfl ?_
    exact ⟨rfl, H4.out.1, H4.out.2.1, H4.out.2.2⟩
theorem r3_ (B c : Nat) (bs : List UInt8) (ab ao : Nat) (f : Value) (w : World) (h : Cod B c bs w) (hB : B ≤ w.heap.size) (hx : Held c w (ab, ao) (.slice none 0 0)) (hlen : bs.length + 10 ≤ 140737488355328) :
 Calls Tryz.prog 385 #[.pointer (some ⟨c, 0, none⟩), .pointer (some ⟨ab, ao, none⟩), f] w fun e w' => e = .returned (.tuple #[]) ∧ Cod B c (bs ++ numL 0) w' ∧ Below B w w' ∧ an_ c w w' := by
 have y1 := hx.cell
 have y2 := h.inn
 have HG := h4_ h hx hlen y1
 have lc := a9_.lt h
 have lab : ab < w.heap.size := World.block_lt_of_cell? _ _ y1
 clear h hx hlen
 go_enter Tryz.func385, Tryz.ntmps385
 go_upto_region 1 with fail
 refine wq_ 8 [] (fun _ => False) [.pt c 0, .pt c 0, .pt c 0, .pt ab ao, .pt ab ao, .val (.slice none 0 0), .val (.int .i64 0), .val (strB (numL 0))] (fun _ _ => True) (by kernel_rfl) (by kernel_rfl) (trivial) ?_ ?_
 · simp only [a4_, List.take]
   refine ⟨?_, ?_, ?_, ?_, ?_, ?_, ?_, ?_, trivial⟩
   all_goals intro k a wr ho hJ hk hr hf hd
   · have h0 : zp_ a 0 c 0 := (hf 0).trans rfl
     exact dp_ hJ (by simp [execOp, h0, go_sem])
   · have h15 : z_ a 15 _ := hd 0
     exact dp_ hJ (by simp [execOp, h15, go_sem])
   · have h16 : z_ a 16 _ := hd 1
     exact dp_ hJ (by simp [execOp, h16, go_sem])
   · have h1 : zp_ a 1 ab ao := (hf 1).trans rfl
     exact dp_ hJ (by simp [execOp, h1, go_sem])
   · have h18 : z_ a 18 _ := hd 3
     exact dp_ hJ (by simp [execOp, h18, go_sem])
   · have h19 : z_ a 19 _ := hd 4
     have hc5 : wr.cell? ⟨ab, ao, none⟩ = some (.slice none 0 0) := (World.cell?_of_block (ho.block ab (World.block_lt_of_cell? _ _ HG.out.2.2.2) id)).trans HG.out.2.2.2
     exact dp_ hJ (by simp [execOp, h19, hc5, go_sem])
   · have h20 : z_ a 20 _ := hd 5
     exact dp_ hJ (by simp [execOp, h20, go_sem])
   · have h21 : z_ a 21 _ := hd 6
     refine a0_ (f := 15) (args := #[.int .i64 0]) (by simp [execOp, h21, go_sem]) ?_
     exact (wnum 0 (by decide) _).mono fun e w' ⟨hb, he⟩ => ⟨_, he, rfl, Only.of_below hb, trivial⟩
 · intro fv w2 ho2 hj hs
   rw [seqv hs [15, 16, 17, 18, 19, 20, 21, 22] (by kernel_rfl)]
   simp only [actV, Act.put, List.drop, List.length, List.setIfInBounds_toArray, List.set_cons_zero, List.set_cons_succ]
   clear hs
   have hbel : Below w.heap.size w w2 := ho2.below (Nat.le_refl _) (fun k h => h.elim)
   have hcod : Cod B c bs w2 := a9_.below HG.out.1 hbel
   have hlen : bs.length + (numL 0).length ≤ 140737488355328 := by rw [bd_]; have := HG.out.2.2.1; omega
   have sz2 := hbel.size
   have HB := h3_ (hbel.mono hB) (an_.below (b := c) hbel) (HG.out.2.1.keep (an_.below hbel))
   clear hbel ho2
   go_wp2_with fail
   refine (c7_ 349 [.pointer none] e3_ B c _ (numL 0) _ hcod hlen (by omega)).mono ?_
   rintro e w3 ⟨rfl, hcd, hbe, hkn⟩
   have hx3 := HB.out.2.2.keep hkn
   have y3 := hx3.cell
   have H3 := h3_ hcd.is (HB.out.1.trans hbe) (HB.out.2.1.trans hkn)
   clear hcd hbe hkn hlen hcod hx3 y1 y2
   go_wp2_with fail
   go_loopw [28] (fun v wr => v = .int .i64 0 ∧ Cod B c (bs ++ numL 0) wr ∧ Below B w wr ∧ an_ c w wr) (fun _ _ => 0)
   case atStart => exact ⟨rfl, H3.out.1, H3.out.2.1, H3.out.2.2⟩
   case round =>
    obtain ⟨rfl, h1, h2, h3⟩ := hrel
    have H4 := h3_ h1 h2 h3
    clear h1 h2 h3 H3
    go_wp2
    refine bodyPost_ret (results_none rfl _ _ _) rfl ?_
    exact ⟨rfl, H4.out.1, H4.out.2.1, H4.out.2.2⟩
theorem r4_ (B c : Nat) (bs : List UInt8) (ab ao : Nat) (f : Value) (w : World) (h : Cod B c bs w) (hB : B ≤ w.heap.size) (hx : Held c w (ab, ao) (.slice none 0 0)) (hlen : bs.length + 10 ≤ 140737488355328) :
 Calls Tryz.prog 387 #[.pointer (some ⟨c, 0, none⟩), .pointer (some ⟨ab, ao, none⟩), f] w fun e w' => e = .returned (.tuple #[]) ∧ Cod B c (bs ++ numL 0) w' ∧ Below B w w' ∧ an_ c w w' := by
 have y1 := hx.cell
 have y2 := h.inn
 have HG := h4_ h hx hlen y1
 have lc := a9_.lt h
 have lab : ab < w.heap.size := World.block_lt_of_cell? _ _ y1
 clear h hx hlen
 go_enter Tryz.func387, Tryz.ntmps387
 go_upto_region 1 with fail
 refine wq_ 8 [] (fun _ => False) [.pt c 0, .pt c 0, .pt c 0, .pt ab ao, .pt ab ao, .val (.slice none 0 0), .val (.int .i64 0), .val (strB (numL 0))] (fun _ _ => True) (by kernel_rfl) (by kernel_rfl) (trivial) ?_ ?_
 · simp only [a4_, List.take]
   refine ⟨?_, ?_, ?_, ?_, ?_, ?_, ?_, ?_, trivial⟩
   all_goals intro k a wr ho hJ hk hr hf hd
   · have h0 : zp_ a 0 c 0 := (hf 0).trans rfl
     exact dp_ hJ (by simp [execOp, h0, go_sem])
   · have h15 : z_ a 15 _ := hd 0
     exact dp_ hJ (by simp [execOp, h15, go_sem])
   · have h16 : z_ a 16 _ := hd 1
     exact dp_ hJ (by simp [execOp, h16, go_sem])
   · have h1 : zp_ a 1 ab ao := (hf 1).trans rfl
     exact dp_ hJ (by simp [execOp, h1, go_sem])
   · have h18 : z_ a 18 _ := hd 3
     exact dp_ hJ (by simp [execOp, h18, go_sem])
   · have h19 : z_ a 19 _ := hd 4
     have hc5 : wr.cell? ⟨ab, ao, none⟩ = some (.slice none 0 0) := (World.cell?_of_block (ho.block ab (World.block_lt_of_cell? _ _ HG.out.2.2.2) id)).trans HG.out.2.2.2
     exact dp_ hJ (by simp [execOp, h19, hc5, go_sem])
   · have h20 : z_ a 20 _ := hd 5
     exact dp_ hJ (by simp [execOp, h20, go_sem])
   · have h21 : z_ a 21 _ := hd 6
     refine a0_ (f := 15) (args := #[.int .i64 0]) (by simp [execOp, h21, go_sem]) ?_
     exact (wnum 0 (by decide) _).mono fun e w' ⟨hb, he⟩ => ⟨_, he, rfl, Only.of_below hb, trivial⟩
 · intro fv w2 ho2 hj hs
   rw [seqv hs [15, 16, 17, 18, 19, 20, 21, 22] (by kernel_rfl)]
   simp only [actV, Act.put, List.drop, List.length, List.setIfInBounds_toArray, List.set_cons_zero, List.set_cons_succ]
   clear hs
   have hbel : Below w.heap.size w w2 := ho2.below (Nat.le_refl _) (fun k h => h.elim)
   have hcod : Cod B c bs w2 := a9_.below HG.out.1 hbel
   have hlen : bs.length + (numL 0).length ≤ 140737488355328 := by rw [bd_]; have := HG.out.2.2.1; omega
   have sz2 := hbel.size
   have HB := h3_ (hbel.mono hB) (an_.below (b := c) hbel) (HG.out.2.1.keep (an_.below hbel))
   clear hbel ho2
   go_wp2_with fail
   refine (c7_ 349 [.pointer none] e3_ B c _ (numL 0) _ hcod hlen (by omega)).mono ?_
   rintro e w3 ⟨rfl, hcd, hbe, hkn⟩
   have hx3 := HB.out.2.2.keep hkn
   have y3 := hx3.cell
   have H3 := h3_ hcd.is (HB.out.1.trans hbe) (HB.out.2.1.trans hkn)
   clear hcd hbe hkn hlen hcod hx3 y1 y2
   go_wp2_with fail
   go_loopw [28] (fun v wr => v = .int .i64 0 ∧ Cod B c (bs ++ numL 0) wr ∧ Below B w wr ∧ an_ c w wr) (fun _ _ => 0)
   case atStart => exact ⟨rfl, H3.out.1, H3.out.2.1, H3.out.2.2⟩
   case round =>
    obtain ⟨rfl, h1, h2, h3⟩ := hrel
    have H4 := h3_ h1 h2 h3
    clear h1 h2 h3 H3
    go_wp2
    refine bodyPost_ret (results_none rfl _ _ _) rfl ?_
    exact ⟨rfl, H4.out.1, H4.out.2.1, H4.out.2.2⟩
theorem mx_ (B c : Nat) (bs : List UInt8) (ab ao : Nat) (f : Value) (w : World) (h : Cod B c bs w) (hB : B ≤ w.heap.size) (hx : Held c w (ab, ao) (.slice none 0 0)) (hlen : bs.length + 10 ≤ 140737488355328) :
 Calls Tryz.prog 389 #[.pointer (some ⟨c, 0, none⟩), .pointer (some ⟨ab, ao, none⟩), f] w fun e w' => e = .returned (.tuple #[]) ∧ Cod B c (bs ++ numL 0) w' ∧ Below B w w' ∧ an_ c w w' := by
 have y1 := hx.cell
 have y2 := h.inn
 have HG := h4_ h hx hlen y1
 have lc := a9_.lt h
 have lab : ab < w.heap.size := World.block_lt_of_cell? _ _ y1
 clear h hx hlen
 go_enter Tryz.func389, Tryz.ntmps389
 go_upto_region 1 with fail
 refine wq_ 8 [] (fun _ => False) [.pt c 0, .pt c 0, .pt c 0, .pt ab ao, .pt ab ao, .val (.slice none 0 0), .val (.int .i64 0), .val (strB (numL 0))] (fun _ _ => True) (by kernel_rfl) (by kernel_rfl) (trivial) ?_ ?_
 · simp only [a4_, List.take]
   refine ⟨?_, ?_, ?_, ?_, ?_, ?_, ?_, ?_, trivial⟩
   all_goals intro k a wr ho hJ hk hr hf hd
   · have h0 : zp_ a 0 c 0 := (hf 0).trans rfl
     exact dp_ hJ (by simp [execOp, h0, go_sem])
   · have h15 : z_ a 15 _ := hd 0
     exact dp_ hJ (by simp [execOp, h15, go_sem])
   · have h16 : z_ a 16 _ := hd 1
     exact dp_ hJ (by simp [execOp, h16, go_sem])
   · have h1 : zp_ a 1 ab ao := (hf 1).trans rfl
     exact dp_ hJ (by simp [execOp, h1, go_sem])
   · have h18 : z_ a 18 _ := hd 3
     exact dp_ hJ (by simp [execOp, h18, go_sem])
   · have h19 : z_ a 19 _ := hd 4
     have hc5 : wr.cell? ⟨ab, ao, none⟩ = some (.slice none 0 0) := (World.cell?_of_block (ho.block ab (World.block_lt_of_cell? _ _ HG.out.2.2.2) id)).trans HG.out.2.2.2
     exact dp_ hJ (by simp [execOp, h19, hc5, go_sem])
   · have h20 : z_ a 20 _ := hd 5
     exact dp_ hJ (by simp [execOp, h20, go_sem])
   · have h21 : z_ a 21 _ := hd 6
     refine a0_ (f := 15) (args := #[.int .i64 0]) (by simp [execOp, h21, go_sem]) ?_
     exact (wnum 0 (by decide) _).mono fun e w' ⟨hb, he⟩ => ⟨_, he, rfl, Only.of_below hb, trivial⟩
 · intro fv w2 ho2 hj hs
   rw [seqv hs [15, 16, 17, 18, 19, 20, 21, 22] (by kernel_rfl)]
   simp only [actV, Act.put, List.drop, List.length, List.setIfInBounds_toArray, List.set_cons_zero, List.set_cons_succ]
   clear hs
   have hbel : Below w.heap.size w w2 := ho2.below (Nat.le_refl _) (fun k h => h.elim)
   have hcod : Cod B c bs w2 := a9_.below HG.out.1 hbel
   have hlen : bs.length + (numL 0).length ≤ 140737488355328 := by rw [bd_]; have := HG.out.2.2.1; omega
   have sz2 := hbel.size
   have HB := h3_ (hbel.mono hB) (an_.below (b := c) hbel) (HG.out.2.1.keep (an_.below hbel))
   clear hbel ho2
   go_wp2_with fail
   refine (c7_ 349 [.pointer none] e3_ B c _ (numL 0) _ hcod hlen (by omega)).mono ?_
   rintro e w3 ⟨rfl, hcd, hbe, hkn⟩
   have hx3 := HB.out.2.2.keep hkn
   have y3 := hx3.cell
   have H3 := h3_ hcd.is (HB.out.1.trans hbe) (HB.out.2.1.trans hkn)
   clear hcd hbe hkn hlen hcod hx3 y1 y2
   go_wp2_with fail
   go_loopw [28] (fun v wr => v = .int .i64 0 ∧ Cod B c (bs ++ numL 0) wr ∧ Below B w wr ∧ an_ c w wr) (fun _ _ => 0)
   case atStart => exact ⟨rfl, H3.out.1, H3.out.2.1, H3.out.2.2⟩
   case round =>
    obtain ⟨rfl, h1, h2, h3⟩ := hrel
    have H4 := h3_ h1 h2 h3
    clear h1 h2 h3 H3
    go_wp2
    refine bodyPost_ret (results_none rfl _ _ _) rfl ?_
    exact ⟨rfl, H4.out.1, H4.out.2.1, H4.out.2.2⟩
theorem uf_ (B c : Nat) (bs : List UInt8) (ab ao : Nat) (f : Value) (w : World) (h : Cod B c bs w) (hB : B ≤ w.heap.size) (hx : Held c w (ab, ao) (.slice none 0 0)) (hlen : bs.length + 10 ≤ 140737488355328) :
 Calls Tryz.prog 391 #[.pointer (some ⟨c, 0, none⟩), .pointer (some ⟨ab, ao, none⟩), f] w fun e w' => e = .returned (.tuple #[]) ∧ Cod B c (bs ++ numL 0) w' ∧ Below B w w' ∧ an_ c w w' := by
 have y1 := hx.cell
 have y2 := h.inn
 have HG := h4_ h hx hlen y1
 have lc := a9_.lt h
 have lab : ab < w.heap.size := World.block_lt_of_cell? _ _ y1
 clear h hx hlen
 go_enter Tryz.func391, Tryz.ntmps391
 go_upto_region 1 with fail
 refine wq_ 8 [] (fun _ => False) [.pt c 0, .pt c 0, .pt c 0, .pt ab ao, .pt ab ao, .val (.slice none 0 0), .val (.int .i64 0), .val (strB (numL 0))] (fun _ _ => True) (by kernel_rfl) (by kernel_rfl) (trivial) ?_ ?_
 · simp only [a4_, List.take]
   refine ⟨?_, ?_, ?_, ?_, ?_, ?_, ?_, ?_, trivial⟩
   all_goals intro k a wr ho hJ hk hr hf hd
   · have h0 : zp_ a 0 c 0 := (hf 0).trans rfl
     exact dp_ hJ (by simp [execOp, h0, go_sem])
   · have h15 : z_ a 15 _ := hd 0
     exact dp_ hJ (by simp [execOp, h15, go_sem])
   · have h16 : z_ a 16 _ := hd 1
     exact dp_ hJ (by simp [execOp, h16, go_sem])
   · have h1 : zp_ a 1 ab ao := (hf 1).trans rfl
     exact dp_ hJ (by simp [execOp, h1, go_sem])
   · have h18 : z_ a 18 _ := hd 3
     exact dp_ hJ (by simp [execOp, h18, go_sem])
   · have h19 : z_ a 19 _ := hd 4
     have hc5 : wr.cell? ⟨ab, ao, none⟩ = some (.slice none 0 0) := (World.cell?_of_block (ho.block ab (World.block_lt_of_cell? _ _ HG.out.2.2.2) id)).trans HG.out.2.2.2
     exact dp_ hJ (by simp [execOp, h19, hc5, go_sem])
   · have h20 : z_ a 20 _ := hd 5
     exact dp_ hJ (by simp [execOp, h20, go_sem])
   · have h21 : z_ a 21 _ := hd 6
     refine a0_ (f := 15) (args := #[.int .i64 0]) (by simp [execOp, h21, go_sem]) ?_
     exact (wnum 0 (by decide) _).mono fun e w' ⟨hb, he⟩ => ⟨_, he, rfl, Only.of_below hb, trivial⟩
 · intro fv w2 ho2 hj hs
   rw [seqv hs [15, 16, 17, 18, 19, 20, 21, 22] (by kernel_rfl)]
   simp only [actV, Act.put, List.drop, List.length, List.setIfInBounds_toArray, List.set_cons_zero, List.set_cons_succ]
   clear hs
   have hbel : Below w.heap.size w w2 := ho2.below (Nat.le_refl _) (fun k h => h.elim)
   have hcod : Cod B c bs w2 := a9_.below HG.out.1 hbel
   have hlen : bs.length + (numL 0).length ≤ 140737488355328 := by rw [bd_]; have := HG.out.2.2.1; omega
   have sz2 := hbel.size
   have HB := h3_ (hbel.mono hB) (an_.below (b := c) hbel) (HG.out.2.1.keep (an_.below hbel))
   clear hbel ho2
   go_wp2_with fail
   refine (c7_ 349 [.pointer none] e3_ B c _ (numL 0) _ hcod hlen (by omega)).mono ?_
   rintro e w3 ⟨rfl, hcd, hbe, hkn⟩
   have hx3 := HB.out.2.2.keep hkn
   have y3 := hx3.cell
   have H3 := h3_ hcd.is (HB.out.1.trans hbe) (HB.out.2.1.trans hkn)
   clear hcd hbe hkn hlen hcod hx3 y1 y2
   go_wp2_with fail
   go_loopw [28] (fun v wr => v = .int .i64 0 ∧ Cod B c (bs ++ numL 0) wr ∧ Below B w wr ∧ an_ c w wr) (fun _ _ => 0)
   case atStart => exact ⟨rfl, H3.out.1, H3.out.2.1, H3.out.2.2⟩
   case round =>
    obtain ⟨rfl, h1, h2, h3⟩ := hrel
    have H4 := h3_ h1 h2 h3
    clear h1 h2 h3 H3
    go_wp2
    refine bodyPost_ret (results_none rfl _ _ _) rfl ?_
    exact ⟨rfl, H4.out.1, H4.out.2.1, H4.out.2.2⟩
end
end Go.Proofs.YtacaejpamidkcaaGreatDoor
