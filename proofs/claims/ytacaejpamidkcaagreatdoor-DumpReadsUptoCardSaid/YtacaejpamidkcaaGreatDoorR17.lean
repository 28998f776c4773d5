/- graph.Parts at one node without arcs. -/
import Derived.Test.YtacaejpamidkcaaGreatDoorR16
set_option linter.unusedVariables false
set_option linter.unusedSimpArgs false
set_option maxRecDepth 100000
set_option maxHeartbeats 4000000
namespace Go.Proofs.YtacaejpamidkcaaGreatDoor
section
open Go.RowKit
attribute [local go_sem] ak_ af_ aq_ be_ bf_ bg_ a6_ a7_ a8_ cb_
def ri_ (w : World) (e : Ending) (w' : World) : Prop :=
 ∃ go co g7 c7, e = .returned (.slice (some ⟨go, 0, none⟩) 1 co) ∧ Below w.heap.size w w' ∧ w'.ownsRow w.heap.size 38 1 (.slice (some ⟨go, 0, none⟩) 1 co) 1 [.slice (some ⟨g7, 0, none⟩) 1 c7] ∧
  w'.ownsRow w.heap.size 3 1 (.slice (some ⟨g7, 0, none⟩) 1 c7) 1 [.int .i64 0]
theorem p9_ (w : World) : Calls Tryz.prog 154 #[.int .i64 1, .slice none 0 0] w (ri_ w) := by
 go_enter Tryz.func154, Tryz.ntmps154
 go_wp2_with (go_at_call 228; refine (ii_ 1 _ (by omega)).mono ?_; rintro e w1 ⟨rfl, hb1⟩; have HB1 := h1_ hb1; clear hb1)
 refine wr_ [.val (.int .i64 1), .val (.slice none 0 0), .blk (sl 1) (.cells #[.slice none 0 0] 38 (0, 0)), .val (.int .i64 1), .blk (sl 1) (.cells #[.int .i64 0] 3 (0, 0)),
  .val (.int .i64 1), .blk (sl 1) (.cells #[.int .i64 0] 3 (0, 0)), .val (.int .i64 1), .blk (sl 1) (.cells #[.int .i64 0] 3 (0, 0)),
  .fn [29, 31, 33, 35] (fun ds => .agg #[ds.getD 0 undef, ds.getD 1 undef, ds.getD 2 undef, .slice none 0 0, ds.getD 3 undef, .slice none 0 0]),
  .blk pt (.cells #[.slice none 0 0, .slice none 0 0, .slice none 0 0, .slice none 0 0, .slice none 0 0, .slice none 0 0] 403 (0, 0))] (by kernel_rfl) (by kernel_rfl) ?_ ?_
 · simp only [ck_, List.take, List.length]
   refine ⟨?_, ?_, ?_, ?_, ?_, ?_, ?_, ?_, ?_, ?_, ?_, ?_⟩
   all_goals first | trivial | (intro a w hb hf hd)
   all_goals have hf0 : z_ a 0 (.int .i64 1) := (hf 0).trans rfl
   all_goals have hf1 : z_ a 1 (.slice none 0 0) := (hf 1).trans rfl
   · exact as_ _ rfl ⟨hf0, fun h => by cases h⟩
   · exact as_ _ rfl ⟨hf1, fun h => by cases h⟩
   · have h0 : z_ a 27 _ := hd 0
     have h1 : z_ a 28 _ := hd 1
     refine cu_ (f := 229) (args := #[.int .i64 1, .slice none 0 0]) (by simp [execOp, h0, h1, go_sem]) ?_
     refine (gnext1 _).mono ?_
     rintro e w2 ⟨rfl, rfl⟩
     exact ⟨_, rfl, (Below.refl _ _).alloc (Nat.le_refl _) _, ⟨_, rfl, heap_alloc_new _ _⟩, fun _ b hb => b2_ hb⟩
   · exact as_ _ rfl ⟨hf0, fun h => by cases h⟩
   · have h0 : z_ a 30 _ := hd 3
     exact av_ (v := sl 1 w.heap.size) (by simp [execOp, h0, go_sem, sl]) ((Below.refl _ _).alloc (Nat.le_refl _) _) ⟨⟨_, rfl, heap_alloc_new _ _⟩, fun _ b hb => b2_ hb⟩
   · exact as_ _ rfl ⟨hf0, fun h => by cases h⟩
   · have h0 : z_ a 32 _ := hd 5
     exact av_ (v := sl 1 w.heap.size) (by simp [execOp, h0, go_sem, sl]) ((Below.refl _ _).alloc (Nat.le_refl _) _) ⟨⟨_, rfl, heap_alloc_new _ _⟩, fun _ b hb => b2_ hb⟩
   · exact as_ _ rfl ⟨hf0, fun h => by cases h⟩
   · have h0 : z_ a 34 _ := hd 7
     exact av_ (v := sl 1 w.heap.size) (by simp [execOp, h0, go_sem, sl]) ((Below.refl _ _).alloc (Nat.le_refl _) _) ⟨⟨_, rfl, heap_alloc_new _ _⟩, fun _ b hb => b2_ hb⟩
   · obtain ⟨b1, e1, _⟩ : ∃ b, a.tmps[(29 : Nat)]?.getD undef = sl 1 b ∧ _ := hd 2
     obtain ⟨b2, e2, _⟩ : ∃ b, a.tmps[(31 : Nat)]?.getD undef = sl 1 b ∧ _ := hd 4
     obtain ⟨b3, e3, _⟩ : ∃ b, a.tmps[(33 : Nat)]?.getD undef = sl 1 b ∧ _ := hd 6
     obtain ⟨b4, e4, _⟩ : ∃ b, a.tmps[(35 : Nat)]?.getD undef = sl 1 b ∧ _ := hd 8
     refine av_ (v := .agg #[sl 1 b1, sl 1 b2, sl 1 b3, .slice none 0 0, sl 1 b4, .slice none 0 0]) (by simp [execOp, e1, e2, e3, e4, go_sem, sl]) (Below.refl _ _) ⟨?_, fun h => by cases h⟩
     rw [← e1, ← e2, ← e3, ← e4]; rfl
   · exact av_ (v := pt w.heap.size) (by simp [execOp, go_sem, pt]) ((Below.refl _ _).alloc (Nat.le_refl _) _) ⟨⟨_, rfl, heap_alloc_new _ _⟩, fun _ b hb => te_ hb⟩
 · intro f w2 hb hs hn hne
   obtain ⟨b1, e1, k1⟩ : ∃ b, f 29 = sl 1 b ∧ w2.heap[b]? = some (.cells #[.slice none 0 0] 38 (0, 0)) := hs 2 (by decide)
   obtain ⟨b2, e2, k2⟩ : ∃ b, f 31 = sl 1 b ∧ w2.heap[b]? = some (.cells #[.int .i64 0] 3 (0, 0)) := hs 4 (by decide)
   obtain ⟨b3, e3, k3⟩ : ∃ b, f 33 = sl 1 b ∧ w2.heap[b]? = some (.cells #[.int .i64 0] 3 (0, 0)) := hs 6 (by decide)
   obtain ⟨b4, e4, k4⟩ : ∃ b, f 35 = sl 1 b ∧ w2.heap[b]? = some (.cells #[.int .i64 0] 3 (0, 0)) := hs 8 (by decide)
   obtain ⟨b5, e5, k5⟩ : ∃ b, f 5 = pt b ∧ w2.heap[b]? = some (.cells #[.slice none 0 0, .slice none 0 0, .slice none 0 0, .slice none 0 0, .slice none 0 0, .slice none 0 0] 403 (0, 0)) := hs 10 (by decide)
   have g36 : f 36 = .agg #[sl 1 b1, sl 1 b2, sl 1 b3, .slice none 0 0, sl 1 b4, .slice none 0 0] := by
    have h : f 36 = .agg #[f 29, f 31, f 33, .slice none 0 0, f 35, .slice none 0 0] := hs 9 (by decide)
    rw [h, e1, e2, e3, e4]
   have n23 : b2 ≠ b3 := fun e => hne 4 6 (by decide) (by decide) rfl rfl (by decide) b2 (by show dx_ (f 31) = _; rw [e2]; rfl) (by show dx_ (f 33) = _; rw [e3, e]; rfl)
   have n24 : b2 ≠ b4 := fun e => hne 4 8 (by decide) (by decide) rfl rfl (by decide) b2 (by show dx_ (f 31) = _; rw [e2]; rfl) (by show dx_ (f 35) = _; rw [e4, e]; rfl)
   have n34 : b3 ≠ b4 := fun e => hne 6 8 (by decide) (by decide) rfl rfl (by decide) b3 (by show dx_ (f 33) = _; rw [e3]; rfl) (by show dx_ (f 35) = _; rw [e4, e]; rfl)
   have hnew : w1.heap.size ≤ b1 ∧ w1.heap.size ≤ b2 ∧ w1.heap.size ≤ b3 ∧ w1.heap.size ≤ b4 ∧ w1.heap.size ≤ b5 :=
    ⟨(hn 2 (by decide) rfl b1 (by show dx_ (f 29) = _; rw [e1]; rfl)).1, (hn 4 (by decide) rfl b2 (by show dx_ (f 31) = _; rw [e2]; rfl)).1, (hn 6 (by decide) rfl b3 (by show dx_ (f 33) = _; rw [e3]; rfl)).1,
     (hn 8 (by decide) rfl b4 (by show dx_ (f 35) = _; rw [e4]; rfl)).1, (hn 10 (by decide) rfl b5 (by show dx_ (f 5) = _; rw [e5]; rfl)).1⟩
   have HN := h3_ n23 n24 n34
   have HK := h6_ hb k1 k2 k3 k4 k5
   have HB := h1_ hnew
   rw [facv hs [27, 28, 29, 30, 31, 32, 33, 34, 35, 36, 5] (by kernel_rfl)]
   simp only [actG, Act.put, List.drop, List.length, e1, e2, e3, e4, g36, e5, List.setIfInBounds_toArray, List.set_cons_zero, List.set_cons_succ]
   clear hs hn hne hb hnew k1 k2 k3 k4 n23 n24 n34 e1 e2 e3 e4 g36 e5
   unfold sl pt
   ((with_reducible refine ad_ ?_); refine sr_ rfl rfl (h := ?_); (try simp only [World.setRow_alloc_new]))
   clear k5
   go_wp2
   refine ac_ fun W hW => ?_
   obtain ⟨hb, k1, k2, k3, k4, k5⟩ := HK.out
   obtain ⟨n23, n24, n34⟩ := HN.out
   have p1 := am_ k1 k5 (by decide); have p2 := am_ k2 k5 (by decide); have p3 := am_ k3 k5 (by decide); have p4 := am_ k4 k5 (by decide)
   have v5 : W.heap[b5]? = some (.cells [sl 1 b1, sl 1 b2, sl 1 b3, .slice none 0 0, sl 1 b4, .slice none 0 0].toArray 403 (0, 0)) := by rw [← hW]; exact ae_ (setRow_heap w2 b5 _ _ _ _ k5)
   have v1 : W.heap[b1]? = some (.cells [.slice none 0 0].toArray 38 (0, 0)) := by rw [← hW]; exact ae_ ((setRow_other _ _ _ _ p1).trans k1)
   have v2 : W.heap[b2]? = some (.cells [.int .i64 0].toArray 3 (0, 0)) := by rw [← hW]; exact ae_ ((setRow_other _ _ _ _ p2).trans k2)
   have v3 : W.heap[b3]? = some (.cells [.int .i64 0].toArray 3 (0, 0)) := by rw [← hW]; exact ae_ ((setRow_other _ _ _ _ p3).trans k3)
   have v4 : W.heap[b4]? = some (.cells [.int .i64 0].toArray 3 (0, 0)) := by rw [← hW]; exact ae_ ((setRow_other _ _ _ _ p4).trans k4)
   have vc : W.heap[w2.heap.size]? = some (.cells [.int .i64 0].toArray 3 (0, 0)) := by rw [← hW]; have := heap_alloc_new (w2.setRow b5 #[sl 1 b1, sl 1 b2, sl 1 b3, .slice none 0 0, sl 1 b4, .slice none 0 0]) (.cells #[.int .i64 0] 3); rw [show (w2.setRow b5 #[sl 1 b1, sl 1 b2, sl 1 b3, .slice none 0 0, sl 1 b4, .slice none 0 0]).heap.size = w2.heap.size by simp] at this; exact this
   have hBW : Below w.heap.size w W := by
    rw [← hW]
    have h0 := HB1.out.trans (hb.mono HB1.out.size)
    refine Below.alloc (B := w.heap.size) ?_ (by have := h0.size; simp; omega) _
    have h1 : Only (fun b => w.heap.size ≤ b) w w2 := Only.of_below_le h0 (fun k _ h => h)
    exact (h1.setRow b5 _ (.inl (by have := HB.out.2.2.2.2; have := HB1.out.size; show w.heap.size ≤ b5; omega))).below (Nat.le_refl _) (fun k h => h)
   have lc2 := lt_of_block k2; have lc3 := lt_of_block k3; have lc4 := lt_of_block k4
   have x2 := ab_ v2 0 rfl
   have y5 := ab_ v5 1 rfl
   have hB := HB.out
   have hsz1 := HB1.out.size
   have HV := h10_ v1 v2 v3 v4 v5 vc hBW n23 n24 n34
   clear hb k1 k2 k3 k4 k5 n23 n24 n34 p1 p2 p3 p4 v5 v1 v2 v3 v4 vc hBW hW HK HN HB HB1
   unfold sl at y5
   refine wp_loop_rounds 2 ?_
   rw [rounds_succ]
   go_wp2_with fail
   obtain ⟨v1, v2, v3, v4, v5, vc, hBW, n23, n24, n34⟩ := HV.out
   refine (gfind b5 b1 b2 b3 b4 w2.heap.size W n23 n24 n34 (by omega) (by omega) (by omega) v5 v1 v2 v3 v4 vc).mono ?_
   rintro e W3 ⟨rfl, ho3, q4, stk, g6, c6, g7, c7, q5, qown6, qown7⟩
   have nf1 := am_ v1 v5 (by decide); have nf12 := am_ v1 v2 (by decide); have nf13 := am_ v1 v3 (by decide); have nf14 := am_ v1 v4 (by decide); have nf1c := am_ v1 vc (by decide)
   have q1 : W3.heap[b1]? = some (.cells [.slice none 0 0].toArray 38 (0, 0)) := ho3.kept v1 (by omega)
   have hB3 : Below w.heap.size w W3 := ((Only.of_below_le hBW (fun k _ h => h) : Only (fun b => w.heap.size ≤ b) w W).then ho3 (fun b _ hb => by omega)).below (Nat.le_refl _) (fun k h => h)
   have HQ := h6_ q4 q5 (ap_ qown6 hBW.size) (ap_ qown7 hBW.size) q1 hB3
   clear v1 v2 v3 v4 v5 vc hBW n23 n24 n34 nf1 nf12 nf13 nf14 nf1c ho3 q4 q5 qown6 qown7 q1 hB3 HV x2 y5
   go_wp2
   rw [rounds_succ]
   go_wp2
   obtain ⟨q4, q5, qown6, qown7, q1, hB3⟩ := HQ.out
   have l5 := lt_of_block q5
   refine wr_ [.pt b5 5, .val (.slice (some ⟨g6, 0, none⟩) 1 c6), .val (.int .i64 1), .val (.int .i64 2), .blk (sl 2) (.cells #[.int .i64 0, .int .i64 0] 3 (0, 0)),
    .pt b5 5, .val (.slice (some ⟨g6, 0, none⟩) 1 c6), .val (.int .i64 1), .val (.int .i64 2), .blk (sl 2) (.cells #[.slice none 0 0, .slice none 0 0] 38 (0, 0)),
    .fn [54] (fun ds => ds.getD 0 undef), .fn [59] (fun ds => ds.getD 0 undef)] (by kernel_rfl) (by kernel_rfl) ?_ ?_
   · simp only [ck_, List.take, List.length]
     refine ⟨?_, ?_, ?_, ?_, ?_, ?_, ?_, ?_, ?_, ?_, ?_, ?_, ?_⟩
     all_goals first | trivial | (intro a w hb hf hd)
     all_goals have hf5 : zp_ a 5 b5 0 := (hf 5).trans rfl
     all_goals have wq := ab_ ((hb.block _ l5).trans q5) 5 rfl
     · exact gp_ (by simp [execOp, hf5, go_sem])
     · have h0 : z_ a 50 _ := hd 0
       exact gp_ (by simp [execOp, h0, wq, go_sem])
     · have h0 : z_ a 51 _ := hd 1
       exact gp_ (by simp [execOp, h0, go_sem])
     · have h0 : z_ a 52 _ := hd 2
       exact av_ (v := .int .i64 2) (by simp [execOp, h0, go_sem]; rfl) (Below.refl _ _) ⟨rfl, fun h => by cases h⟩
     · have h0 : z_ a 53 _ := hd 3
       exact av_ (v := sl 2 w.heap.size) (by simp [execOp, h0, go_sem, sl]) ((Below.refl _ _).alloc (Nat.le_refl _) _) ⟨⟨_, rfl, heap_alloc_new _ _⟩, fun _ b hb => b2_ hb⟩
     · exact gp_ (by simp [execOp, hf5, go_sem])
     · have h0 : z_ a 55 _ := hd 5
       exact gp_ (by simp [execOp, h0, wq, go_sem])
     · have h0 : z_ a 56 _ := hd 6
       exact gp_ (by simp [execOp, h0, go_sem])
     · have h0 : z_ a 57 _ := hd 7
       exact av_ (v := .int .i64 2) (by simp [execOp, h0, go_sem]; rfl) (Below.refl _ _) ⟨rfl, fun h => by cases h⟩
     · have h0 : z_ a 58 _ := hd 8
       exact av_ (v := sl 2 w.heap.size) (by simp [execOp, h0, go_sem, sl]) ((Below.refl _ _).alloc (Nat.le_refl _) _) ⟨⟨_, rfl, heap_alloc_new _ _⟩, fun _ b hb => b2_ hb⟩
     · exact av_ (v := a.tmps[(54 : Nat)]?.getD undef) (by simp [execOp, go_sem]) (Below.refl _ _) ⟨rfl, fun h => by cases h⟩
     · exact av_ (v := a.tmps[(59 : Nat)]?.getD undef) (by simp [execOp, go_sem]) (Below.refl _ _) ⟨rfl, fun h => by cases h⟩
   · intro f1 W4 hb4 hs hn hne
     obtain ⟨bw, e54, kw⟩ : ∃ b, f1 54 = sl 2 b ∧ W4.heap[b]? = some (.cells #[.int .i64 0, .int .i64 0] 3 (0, 0)) := hs 4 (by simp)
     obtain ⟨bu, e59, ku⟩ : ∃ b, f1 59 = sl 2 b ∧ W4.heap[b]? = some (.cells #[.slice none 0 0, .slice none 0 0] 38 (0, 0)) := hs 9 (by simp)
     have e8 : f1 8 = sl 2 bw := (hs 10 (by simp)).trans e54
     have e9 : f1 9 = sl 2 bu := (hs 11 (by simp)).trans e59
     have hnew : W3.heap.size ≤ bw ∧ W3.heap.size ≤ bu := ⟨(hn 4 (by simp) rfl bw (by show dx_ (f1 54) = _; rw [e54]; rfl)).1, (hn 9 (by simp) rfl bu (by show dx_ (f1 59) = _; rw [e59]; rfl)).1⟩
     rw [show (List.range (List.length _)).map (a1_ _) = [50, 51, 52, 53, 54, 55, 56, 57, 58, 59, 8, 9] from by kernel_rfl]
     simp only [dw_, List.foldl, Act.put, List.drop, List.length, e54, e59, e8, e9, List.setIfInBounds_toArray, List.set_cons_zero, List.set_cons_succ]
     have m1 := at_b hb4 q1
     have m4 := at_b hb4 q4
     have m5 := (hb4.block _ l5).trans q5
     have mo6 := ai_ qown6 hb4
     have mo7 := ai_ qown7 hb4
     have hB4 := hB3.trans (hb4.mono hB3.size)
     have y0 := ab_ m5 0 rfl; have y4 := ab_ m5 4 rfl; have y5 := ab_ m5 5 rfl
     have z1 := ab_ m1 0 rfl; have z4 := ab_ m4 0 rfl
     have zw := ab_ (l := [.int .i64 0, .int .i64 0]) kw 1 rfl
     have zu := ab_ (l := [.slice none 0 0, .slice none 0 0]) ku 1 rfl
     have z6 := bx_ mo6
     have z7 := bx_ mo7
     have HM := h7_ hB4 m4 m5 mo6 mo7 kw ku
     have l1 := lt_of_block m1; have l4 := lt_of_block m4; have l5' := lt_of_block m5; have lw := lt_of_block kw; have lu := lt_of_block ku; have l6 := (ah_ mo6).2.1; have l7 := (ah_ mo7).2.1
     have hsz4 := hB4.size
     clear hs hn hne e54 e59 e8 e9 hnew m1 m4 m5 mo6 mo7 hB4 hb4 kw ku q4 q5 qown6 qown7 q1 hB3 HQ l5
     unfold sl at y0 y4 
     unfold sl
     go_wp2
     refine wp_loop_rounds 2 ?_
     rw [rounds_succ]
     go_wp2
     refine wp_loop_rounds 2 ?_
     rw [rounds_succ]
     go_wp2
     rw [rounds_succ]
     go_wp2
     refine wp_loop_rounds 2 ?_
     rw [rounds_succ]
     go_wp2_with fail
     obtain ⟨hB4, m4, m5, mo6, mo7, kw, ku⟩ := HM.out
     refine (th_ (W4.heap.size + 1) W4.heap.size _ (heap_alloc2_new W4 _ _) g7 c7).mono ?_
     rintro e W5 ⟨rfl, ho5, gq, cq, hq5, hqown⟩
     have k4 := ho5.kept (ae_ (ae_ m4)) (show ¬ b4 = W4.heap.size + 1 by omega)
     have k5 := ho5.kept (ae_ (ae_ m5)) (show ¬ b5 = W4.heap.size + 1 by omega)
     have kw' := ho5.kept (ae_ (ae_ kw)) (show ¬ bw = W4.heap.size + 1 by omega)
     have ku' := ho5.kept (ae_ (ae_ ku)) (show ¬ bu = W4.heap.size + 1 by omega)
     have ko6 := ao_ (ai_ (ai_ mo6 ((Below.refl _ _).alloc (Nat.le_refl _) _)) ((Below.refl _ _).alloc (Nat.le_refl _) _)) ho5 (show ¬ g6 = W4.heap.size + 1 by omega)
     have ko7 := ao_ (ai_ (ai_ mo7 ((Below.refl _ _).alloc (Nat.le_refl _) _)) ((Below.refl _ _).alloc (Nat.le_refl _) _)) ho5 (show ¬ g7 = W4.heap.size + 1 by omega)
     have hB5 : Below w.heap.size w W5 := (((((Only.of_below_le hB4 (fun k _ h => h) : Only (fun b => w.heap.size ≤ b) w W4).alloc _).alloc _).then ho5 (fun b _ hb => by omega)).below (Nat.le_refl _) (fun k h => h))
     have cq5 := ab_ hq5 0 rfl
     have hm5 := hg_ cq5
     have hqown' := ap_ hqown (Nat.zero_le _)
     have lq := (ah_ hqown).1
     have lq5 := lt_of_block hq5
     have H5 := h9_ hB5 k4 k5 kw' ku' ko6 ko7 hq5 hqown'
     clear hB4 m4 m5 mo6 mo7 kw ku ho5 hq5 hqown k4 k5 kw' ku' ko6 ko7 hB5 cq5 hqown' HM y0 y4 y5 z1 z4 zw zu z6 z7
     go_wp2_with fail
     rw [rounds_succ]
     go_wp2_with fail
     refine wp_loop_rounds 2 ?_
     rw [rounds_succ]
     go_wp2_with (go_at_call 489; refine (gk_ _ _ _ _).mono ?_; rintro e w2 ⟨rfl, rfl⟩)
     obtain ⟨hB5, k4, k5, kw, ku, ko6, ko7, hq5, hqo⟩ := H5.out
     refine (wi_ (W4.heap.size + 1) gq cq g7 c7 W5 hq5 hqo).mono ?_
     rintro e W6 ⟨rfl, ho6, hq6⟩
     have n4 : ¬ (b4 = W4.heap.size + 1 ∨ b4 = gq) := by simp at lq; omega
     have n5 : ¬ (b5 = W4.heap.size + 1 ∨ b5 = gq) := by simp at lq; omega
     have nu : ¬ (bu = W4.heap.size + 1 ∨ bu = gq) := by simp at lq; omega
     have n7 : ¬ (g7 = W4.heap.size + 1 ∨ g7 = gq) := by simp at lq; omega
     have r4 := ho6.kept k4 n4
     have r5 := ho6.kept k5 n5
     have ru := ho6.kept ku nu
     have ro7 := ao_ ko7 ho6 n7
     have hB6 : Below w.heap.size w W6 := ((Only.of_below_le hB5 (fun k _ h => h) : Only (fun b => w.heap.size ≤ b) w W5).then ho6 (fun b _ hb => by simp at lq; omega)).below (Nat.le_refl _) (fun k h => h)
     have lq6 := lt_of_block hq6
     have H6 := h6_ hB6 r4 r5 ru ro7 hq6
     clear hB5 k4 k5 kw ku ko6 ko7 hq5 hqo ho6 hq6 r4 r5 ru ro7 hB6 H5 hm5
     go_wp2_with (at_builtin; refine d1_ rfl _ _ 297 38 (.slice none 0 0) 1 24 rfl Tryz.underlying297 (by kernel_rfl) rfl (by omega) W6.heap.size 1 [.slice (some ⟨g7, 0, none⟩) 1 c7] rfl rfl (heap_alloc_new _ _) rfl (by simp [Value.oneCell']) (by omega) (W6.heap.size + 1) (by simp) ?_; intro co W7 hown7 hb7; have H7 := h2_ hown7 hb7; clear hown7 hb7)
     obtain ⟨hB6, r4, r5, ru, ro7, hq6⟩ := H6.out
     obtain ⟨hown7, hb7⟩ := H7.out
     have t4 := (hb7.block b4 (by have := lt_of_block r4; omega)).trans (ae_ (o' := .cells #[.slice (some ⟨g7, 0, none⟩) 1 c7] 38) r4)
     have t5 := (hb7.block b5 (by have := lt_of_block r5; omega)).trans (ae_ (o' := .cells #[.slice (some ⟨g7, 0, none⟩) 1 c7] 38) r5)
     have tu := (hb7.block bu (by have := lt_of_block ru; omega)).trans (ae_ (o' := .cells #[.slice (some ⟨g7, 0, none⟩) 1 c7] 38) ru)
     have tq := (hb7.block (W4.heap.size + 1) (by omega)).trans (ae_ (o' := .cells #[.slice (some ⟨g7, 0, none⟩) 1 c7] 38) hq6)
     have to7 : W7.ownsRow w.heap.size 3 1 (.slice (some ⟨g7, 0, none⟩) 1 c7) 1 [.int .i64 0] :=
      ai_ (ai_ ro7 ((Below.refl _ _).alloc (Nat.le_refl _) (.cells #[.slice (some ⟨g7, 0, none⟩) 1 c7] 38))) (by simpa using hb7)
     have hB7 : Below w.heap.size w W7 := (hB6.alloc hB6.size (.cells #[.slice (some ⟨g7, 0, none⟩) 1 c7] 38)).trans (hb7.mono (by have := hB6.size; simp; omega))
     have y4 := ab_ t5 4 rfl
     have z4 := ab_ t4 0 rfl
     have zu := ab_ (l := [.slice none 0 0, .slice none 0 0]) tu 1 rfl
     have z7 := bx_ to7
     have hm7 := hg_ (w := W7.drew) (ab_ (w := W7.drew) tq 0 rfl)
     have H8 := h3_ hB7 (ap_ hown7 (base' := w.heap.size) (by have := hB6.size; omega)) to7
     clear hB6 r4 r5 ru ro7 hq6 hown7 hb7 t4 t5 tu tq to7 hB7 H6 H7
     unfold sl at y4
     go_region
     go_wp2
     refine wp_loop_rounds 1 ?_
     rw [rounds_succ]
     go_wp2
     rw [rounds_succ]
     go_wp2_with (go_at_call 489; refine (gk_ _ _ _ _).mono ?_; rintro e w2 ⟨rfl, rfl⟩)
     obtain ⟨hB, hown, ho7⟩ := H8.out
     go_ret
     exact ⟨_, co, g7, c7, rfl, hB.drew, hown, ho7⟩
end
end Go.Proofs.YtacaejpamidkcaaGreatDoor
