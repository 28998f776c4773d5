/- graph.Parts at no node without arcs. -/
import Derived.Test.YtacaejpamidkcaaGreatDoorR16
set_option linter.unusedVariables false
set_option linter.unusedSimpArgs false
set_option maxRecDepth 100000
set_option maxHeartbeats 4000000
namespace Go.Proofs.YtacaejpamidkcaaGreatDoor
section
open Go.RowKit
attribute [local go_sem] ak_ af_ aq_ be_ bf_ bg_ a6_ a7_ a8_ cb_
theorem tj_ (w : World) : Calls Tryz.prog 154 #[.int .i64 0, .slice none 0 0] w fun e w' => e = .returned (.slice none 0 0) ∧ Below w.heap.size w w' := by
 go_enter Tryz.func154, Tryz.ntmps154
 go_wp2_with (go_at_call 228; refine (ii_ 0 _ (by omega)).mono ?_; rintro e w1 ⟨rfl, hb1⟩; have HB1 := h1_ hb1; clear hb1)
 refine wr_ [.val (.int .i64 0), .val (.slice none 0 0), .more (fun v _ => ∃ b, v = sl 0 b) (fun _ _ _ _ h => h), .val (.int .i64 0), .blk (sl 0) (.cells #[] 3 (0, 0)),
  .val (.int .i64 0), .blk (sl 0) (.cells #[] 3 (0, 0)), .val (.int .i64 0), .blk (sl 0) (.cells #[] 3 (0, 0)),
  .fn [29, 31, 33, 35] (fun ds => .agg #[ds.getD 0 undef, ds.getD 1 undef, ds.getD 2 undef, .slice none 0 0, ds.getD 3 undef, .slice none 0 0]),
  .blk pt (.cells #[.slice none 0 0, .slice none 0 0, .slice none 0 0, .slice none 0 0, .slice none 0 0, .slice none 0 0] 403 (0, 0))] (by kernel_rfl) (by kernel_rfl) ?_ ?_
 · simp only [ck_, List.take, List.length]
   refine ⟨?_, ?_, ?_, ?_, ?_, ?_, ?_, ?_, ?_, ?_, ?_, ?_⟩
   all_goals first | trivial | (intro a w hb hf hd)
   all_goals have hf0 : z_ a 0 (.int .i64 0) := (hf 0).trans rfl
   all_goals have hf1 : z_ a 1 (.slice none 0 0) := (hf 1).trans rfl
   · exact as_ _ rfl ⟨hf0, fun h => by cases h⟩
   · exact as_ _ rfl ⟨hf1, fun h => by cases h⟩
   · have h0 : z_ a 27 _ := hd 0
     have h1 : z_ a 28 _ := hd 1
     refine cu_ (f := 229) (args := #[.int .i64 0, .slice none 0 0]) (by simp [execOp, h0, h1, go_sem]) ?_
     refine (gnext0 _).mono ?_
     rintro e w2 ⟨rfl, hb2⟩
     exact ⟨_, rfl, hb2, ⟨_, rfl⟩, fun h => by cases h⟩
   · exact as_ _ rfl ⟨hf0, fun h => by cases h⟩
   · have h0 : z_ a 30 _ := hd 3
     exact av_ (v := sl 0 w.heap.size) (by simp [execOp, h0, go_sem, sl]) ((Below.refl _ _).alloc (Nat.le_refl _) _) ⟨⟨_, rfl, heap_alloc_new _ _⟩, fun _ b hb => b2_ hb⟩
   · exact as_ _ rfl ⟨hf0, fun h => by cases h⟩
   · have h0 : z_ a 32 _ := hd 5
     exact av_ (v := sl 0 w.heap.size) (by simp [execOp, h0, go_sem, sl]) ((Below.refl _ _).alloc (Nat.le_refl _) _) ⟨⟨_, rfl, heap_alloc_new _ _⟩, fun _ b hb => b2_ hb⟩
   · exact as_ _ rfl ⟨hf0, fun h => by cases h⟩
   · have h0 : z_ a 34 _ := hd 7
     exact av_ (v := sl 0 w.heap.size) (by simp [execOp, h0, go_sem, sl]) ((Below.refl _ _).alloc (Nat.le_refl _) _) ⟨⟨_, rfl, heap_alloc_new _ _⟩, fun _ b hb => b2_ hb⟩
   · obtain ⟨b1, e1⟩ : ∃ b, a.tmps[(29 : Nat)]?.getD undef = sl 0 b := hd 2
     obtain ⟨b2, e2, _⟩ : ∃ b, a.tmps[(31 : Nat)]?.getD undef = sl 0 b ∧ _ := hd 4
     obtain ⟨b3, e3, _⟩ : ∃ b, a.tmps[(33 : Nat)]?.getD undef = sl 0 b ∧ _ := hd 6
     obtain ⟨b4, e4, _⟩ : ∃ b, a.tmps[(35 : Nat)]?.getD undef = sl 0 b ∧ _ := hd 8
     refine av_ (v := .agg #[sl 0 b1, sl 0 b2, sl 0 b3, .slice none 0 0, sl 0 b4, .slice none 0 0]) (by simp [execOp, e1, e2, e3, e4, go_sem, sl]) (Below.refl _ _) ⟨?_, fun h => by cases h⟩
     rw [← e1, ← e2, ← e3, ← e4]; rfl
   · exact av_ (v := pt w.heap.size) (by simp [execOp, go_sem, pt]) ((Below.refl _ _).alloc (Nat.le_refl _) _) ⟨⟨_, rfl, heap_alloc_new _ _⟩, fun _ b hb => te_ hb⟩
 · intro f w2 hb hs hn hne
   obtain ⟨b1, e1⟩ : ∃ b, f 29 = sl 0 b := hs 2 (by decide)
   obtain ⟨b2, e2, k2⟩ : ∃ b, f 31 = sl 0 b ∧ w2.heap[b]? = some (.cells #[] 3 (0, 0)) := hs 4 (by decide)
   obtain ⟨b3, e3, k3⟩ : ∃ b, f 33 = sl 0 b ∧ w2.heap[b]? = some (.cells #[] 3 (0, 0)) := hs 6 (by decide)
   obtain ⟨b4, e4, k4⟩ : ∃ b, f 35 = sl 0 b ∧ w2.heap[b]? = some (.cells #[] 3 (0, 0)) := hs 8 (by decide)
   obtain ⟨b5, e5, k5⟩ : ∃ b, f 5 = pt b ∧ w2.heap[b]? = some (.cells #[.slice none 0 0, .slice none 0 0, .slice none 0 0, .slice none 0 0, .slice none 0 0, .slice none 0 0] 403 (0, 0)) := hs 10 (by decide)
   have g36 : f 36 = .agg #[sl 0 b1, sl 0 b2, sl 0 b3, .slice none 0 0, sl 0 b4, .slice none 0 0] := by
    have h : f 36 = .agg #[f 29, f 31, f 33, .slice none 0 0, f 35, .slice none 0 0] := hs 9 (by decide)
    rw [h, e1, e2, e3, e4]
   have hnew : w1.heap.size ≤ b5 := (hn 10 (by decide) rfl b5 (by show dx_ (f 5) = _; rw [e5]; rfl)).1
   have HK := h2_ hb k5
   rw [facv hs [27, 28, 29, 30, 31, 32, 33, 34, 35, 36, 5] (by kernel_rfl)]
   simp only [actG, Act.put, List.drop, List.length, e1, e2, e3, e4, g36, e5, List.setIfInBounds_toArray, List.set_cons_zero, List.set_cons_succ]
   clear hs hn hne hb k2 k3 k4 e1 e2 e3 e4 g36 e5
   unfold sl pt
   ((with_reducible refine ad_ ?_); refine sr_ rfl rfl (h := ?_); (try simp only [World.setRow_alloc_new]))
   clear k5
   go_wp2
   refine ac_ fun W hW => ?_
   obtain ⟨hb, k5⟩ := HK.out
   have v5 : W.heap[b5]? = some (.cells [sl 0 b1, sl 0 b2, sl 0 b3, .slice none 0 0, sl 0 b4, .slice none 0 0].toArray 403 (0, 0)) := by rw [← hW]; exact ae_ (setRow_heap w2 b5 _ _ _ _ k5)
   have hBW : Below w.heap.size w W := by
    rw [← hW]
    have h0 := HB1.out.trans (hb.mono HB1.out.size)
    refine Below.alloc (B := w.heap.size) ?_ (by have := h0.size; simp; omega) _
    have h1 : Only (fun b => w.heap.size ≤ b) w w2 := Only.of_below_le h0 (fun k _ h => h)
    exact (h1.setRow b5 _ (.inl (by have := HB1.out.size; show w.heap.size ≤ b5; omega))).below (Nat.le_refl _) (fun k h => h)
   have HV := h2_ v5 hBW
   have l5 := lt_of_block v5
   have c0 := ab_ v5 0 rfl; have c5 := ab_ v5 5 rfl
   clear hb k5 v5 hBW hW HK HB1
   unfold sl at c0
   refine wp_loop_rounds 1 ?_
   rw [rounds_succ]
   go_wp2
   go_region
   all_goals
    go_wp2_with fail
    refine ac_ fun Y hY => ?_
    have hBY : Below W.heap.size W Y := by rw [← hY]; exact (((Below.refl _ _).alloc (Nat.le_refl _) _).alloc (by simp) _).drew
    have d0 := (hBY.cell (p := ⟨b5, 0, none⟩) l5).trans c0
    have d5 := (hBY.cell (p := ⟨b5, 5, none⟩) l5).trans c5
    have l5' : b5 < Y.heap.size := Nat.lt_of_lt_of_le l5 hBY.size
    have HY := h1_ (HV.out.2.trans (hBY.mono HV.out.2.size))
    clear hBY hY c0 c5 l5 HV
    go_wp2
    refine wp_loop_rounds 1 ?_
    rw [rounds_succ]
    go_wp2
    refine wp_loop_rounds 1 ?_
    rw [rounds_succ]
    go_wp2
    refine ac_ fun X hX => ?_
    have hq : X.cell? ⟨Y.heap.size + 1, 0, none⟩ = some (.slice (some ⟨Y.heap.size, 0, none⟩) 0 0) := by rw [← hX]; simp [go_sem]
    have hm := hg_ hq
    have hB : Below w.heap.size w X := by
     rw [← hX]
     have := HY.out.size
     exact ((HY.out.alloc this _).alloc (by simp; omega) _)
    clear hq hX
    have HX := h1_ hB
    clear hB d0 d5
    refine wp_loop_rounds 1 ?_
    rw [rounds_succ]
    go_wp2_with (go_at_call 489; refine (gk_ _ _ _ _).mono ?_; rintro e w2 ⟨rfl, rfl⟩)
    go_ret
    exact ⟨rfl, HX.out⟩
theorem loop0 (w : World) : Calls Tryz.prog 216 #[.int .i64 0, .slice none 0 0] w fun e w' => e = .returned (.slice none 0 0) ∧ Below w.heap.size w w' := by
 go_enter Tryz.func216, Tryz.ntmps216
 (go_wp2_with (first | (go_at_call 154; refine (tj_ _).mono ?_; rintro e w1 ⟨rfl, hb1⟩; have H1 := h1_ hb1; clear hb1) | (go_at_call 228; refine (ii_ 0 _ (by omega)).mono ?_; rintro e w2 ⟨rfl, hb2⟩; have H2 := h1_ hb2; clear hb2)); repeat (any_goals (first | (refine wp_loop_rounds 2 ?_; rw [rounds_succ]; go_wp2_with (first | (go_at_call 154; refine (tj_ _).mono ?_; rintro e w1 ⟨rfl, hb1⟩; have H1 := h1_ hb1; clear hb1) | (go_at_call 228; refine (ii_ 0 _ (by omega)).mono ?_; rintro e w2 ⟨rfl, hb2⟩; have H2 := h1_ hb2; clear hb2))) | (rw [rounds_succ]; go_wp2_with (first | (go_at_call 154; refine (tj_ _).mono ?_; rintro e w1 ⟨rfl, hb1⟩; have H1 := h1_ hb1; clear hb1) | (go_at_call 228; refine (ii_ 0 _ (by omega)).mono ?_; rintro e w2 ⟨rfl, hb2⟩; have H2 := h1_ hb2; clear hb2))))))
 go_ret
 exact ⟨rfl, H1.out.trans (H2.out.mono H1.out.size)⟩
end
end Go.Proofs.YtacaejpamidkcaaGreatDoor
