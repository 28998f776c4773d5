/- graph: (*finder).find's closure 'enter' at node 0. -/
import Derived.Test.YtacaejpamidkcaaGreatDoorR13
set_option linter.unusedVariables false
set_option linter.unusedSimpArgs false
set_option maxRecDepth 100000
set_option maxHeartbeats 1000000
namespace Go.Proofs.YtacaejpamidkcaaGreatDoor
section
open Go.RowKit
attribute [local go_sem] ak_ af_ aq_ be_ bf_ bg_ a6_ a7_ a8_
theorem genter (f b1 b2 b3 b4 c pf pc : Nat) (w : World) (n23 : b2 ≠ b3) (hpf : w.heap[pf]? = some (.cells [pt f].toArray 498 (0, 0))) (hpc : w.heap[pc]? = some (.cells [pt c].toArray 215 (0, 0)))
 (hf : w.heap[f]? = some (.cells [sl 1 b1, sl 1 b2, sl 1 b3, .slice none 0 0, sl 1 b4, .slice none 0 0].toArray 403 (0, 0)))
 (h2 : w.heap[b2]? = some (.cells [.int .i64 0].toArray 3 (0, 0))) (h3 : w.heap[b3]? = some (.cells [.int .i64 0].toArray 3 (0, 0))) (hc : w.heap[c]? = some (.cells [.int .i64 0].toArray 3 (0, 0))) (nc2 : c ≠ b2) (nc3 : c ≠ b3) :
 Calls Tryz.prog 359 #[.int .i64 0, pt pc, pt pf] w fun e w' => e = .returned (.agg #[.int .i64 0, .int .i64 0]) ∧ Only (fun b => b = f ∨ b = b2 ∨ b = b3 ∨ b = c) w w' ∧
  w'.heap[b2]? = some (.cells [.int .i64 1].toArray 3 (0, 0)) ∧ w'.heap[b3]? = some (.cells [.int .i64 1].toArray 3 (0, 0)) ∧
  ∃ g cap, w'.heap[f]? = some (.cells [sl 1 b1, sl 1 b2, sl 1 b3, .slice (some ⟨g, 0, none⟩) 1 cap, sl 1 b4, .slice none 0 0].toArray 403 (0, 0)) ∧ w.heap.size ≤ g ∧ w'.ownsRow w.heap.size 3 1 (.slice (some ⟨g, 0, none⟩) 1 cap) 1 [.int .i64 0] := by
 unfold sl pt at *
 have c0 := ab_ hf 0 rfl; have f0 := ag_ hf 0; have c1 := ab_ hf 1 rfl; have f1 := ag_ hf 1; have c2 := ab_ hf 2 rfl; have f2 := ag_ hf 2; have c3 := ab_ hf 3 rfl; have f3 := ag_ hf 3
 have d2 := ab_ h2 0 rfl; have e2 := ag_ h2 0
 have d3 := ab_ h3 0 rfl; have e3 := ag_ h3 0
 have dc := ab_ hc 0 rfl; have ec := ag_ hc 0
 have xf := ab_ hpf 0 rfl; have xc := ab_ hpc 0 rfl
 have l1 := lt_of_block hf; have l2 := lt_of_block h2; have l3 := lt_of_block h3; have l4 := lt_of_block hc; have l5 := lt_of_block hpf; have l6 := lt_of_block hpc
 have nf2 := am_ hf h2 (by decide); have nf3 := am_ hf h3 (by decide); have nfc := am_ hf hc (by decide)
 have npf := am_ hpf hc (by decide); have npc := am_ hpc hc (by decide)
 have HH := h6_ hf h2 h3 hc hpf hpc
 clear hf h2 h3 hc hpf hpc
 go_enter Tryz.func359, Tryz.ntmps359
 go_wp2
 refine ac_ fun W hW => ?_
 have LL := h6_ nf2 nf3 nfc npf npc n23
 have kf : W.heap[f]? = some (.cells [.slice (some ⟨b1, 0, none⟩) 1 1, .slice (some ⟨b2, 0, none⟩) 1 1, .slice (some ⟨b3, 0, none⟩) 1 1, .slice none 0 0, .slice (some ⟨b4, 0, none⟩) 1 1, .slice none 0 0].toArray 403 (0, 0)) := by
  rw [← hW]; exact ae_ (ay_ HH.out.1 _ _ nfc)
 have k2 : W.heap[b2]? = some (.cells [.int .i64 0].toArray 3 (0, 0)) := by rw [← hW]; exact ae_ (ay_ HH.out.2.1 _ _ (Ne.symm nc2))
 have k3 : W.heap[b3]? = some (.cells [.int .i64 0].toArray 3 (0, 0)) := by rw [← hW]; exact ae_ (ay_ HH.out.2.2.1 _ _ (Ne.symm nc3))
 have kc : W.heap[c]? = some (.cells [.int .i64 1].toArray 3 (0, 0)) := by rw [← hW]; exact ae_ (aj_ HH.out.2.2.2.1 0 _)
 have kpf : W.heap[pf]? = some (.cells [.pointer (some ⟨f, 0, none⟩)].toArray 498 (0, 0)) := by rw [← hW]; exact ae_ (ay_ HH.out.2.2.2.2.1 _ _ npf)
 have kpc : W.heap[pc]? = some (.cells [.pointer (some ⟨c, 0, none⟩)].toArray 215 (0, 0)) := by rw [← hW]; exact ae_ (ay_ HH.out.2.2.2.2.2 _ _ npc)
 have kr : W.heap[w.heap.size]? = some (.cells [.int .i64 0, .int .i64 0].toArray 500 (0, 0)) := by rw [← hW]; have := heap_alloc_new (w.setCell ⟨c, 0, none⟩ (.int .i64 1)) (.cells #[.int .i64 0, .int .i64 0] 500); simpa using this
 have ho : Only (fun b => b = f ∨ b = b2 ∨ b = b3 ∨ b = c) w W := by rw [← hW]; exact ((Only.refl _ w).setCell _ _ (.inl (.inr (.inr (.inr rfl))))).alloc _
 clear c0 f0 c1 f1 c2 f2 c3 f3 d2 e2 d3 e3 dc ec xf xc l1 l2 l3 l4 l5 l6
 have c1 := ab_ kf 1 rfl; have c2 := ab_ kf 2 rfl; have c3 := ab_ kf 3 rfl
 have d2 := ab_ k2 0 rfl; have e2 := ag_ k2 0
 have d3 := ab_ k3 0 rfl; have e3 := ag_ k3 0
 have dc := ab_ kc 0 rfl; have xf := ab_ kpf 0 rfl; have xc := ab_ kpc 0 rfl
 have HK := h8_ kf k2 k3 kc kpf kpc kr ho
 clear kf k2 k3 kc kpf kpc kr ho hW nf2 nf3 nfc npf npc
 have n32 := Ne.symm n23
 go_region
 go_wp2
 clear c1 c2 c3 d2 e2 d3 e3 dc xf xc
 obtain ⟨kf, k2, k3, kc, kpf, kpc, kr, ho⟩ := HK.out
 refine ac_ fun V hV => ?_
 have vf : V.heap[f]? = some (.cells [.slice (some ⟨b1, 0, none⟩) 1 1, .slice (some ⟨b2, 0, none⟩) 1 1, .slice (some ⟨b3, 0, none⟩) 1 1, .slice none 0 0, .slice (some ⟨b4, 0, none⟩) 1 1, .slice none 0 0].toArray 403 (0, 0)) := by
  rw [← hV]; exact az_ (ay_ (ay_ kf _ _ LL.out.1) _ _ LL.out.2.1)
 have v2 : V.heap[b2]? = some (.cells [.int .i64 1].toArray 3 (0, 0)) := by rw [← hV]; exact az_ (ay_ (aj_ k2 0 _) _ _ n23)
 have v3 : V.heap[b3]? = some (.cells [.int .i64 1].toArray 3 (0, 0)) := by rw [← hV]; exact az_ (aj_ (ay_ k3 _ _ n32) 0 _)
 have vpf : V.heap[pf]? = some (.cells [.pointer (some ⟨f, 0, none⟩)].toArray 498 (0, 0)) := by
  rw [← hV]; exact az_ (ay_ (ay_ kpf _ _ (am_ kpf k2 (by decide))) _ _ (am_ kpf k3 (by decide)))
 have vr : V.heap[w.heap.size]? = some (.cells [.int .i64 0, .int .i64 0].toArray 500 (0, 0)) := by
  rw [← hV]; exact az_ (ay_ (ay_ kr _ _ (am_ kr k2 (by decide))) _ _ (am_ kr k3 (by decide)))
 have vo : Only (fun b => b = f ∨ b = b2 ∨ b = b3 ∨ b = c) w V := by rw [← hV]; exact ((ho.setCell _ _ (.inl (.inr (.inl rfl)))).setCell _ _ (.inl (.inr (.inr (.inl rfl))))).drew
 clear kf k2 k3 kc kpf kpc kr ho hV HK LL n23 n32 HH W
 have hsz := vo.size
 refine wr_ [.val (pt f), .val (pt f), .val (pt f), .pt f 3, .val (.slice none 0 0), .val (.int .i64 0), .blk (sl 1) (.cells #[.int .i64 0] 3 (0, 0)),
  .more (fun v w' => ∃ g cap, v = .slice (some ⟨g, 0, none⟩) 1 cap ∧ w.heap.size ≤ g ∧ w'.ownsRow w.heap.size 3 1 (.slice (some ⟨g, 0, none⟩) 1 cap) 1 [.int .i64 0]) (fun v w' w'' hb h => by obtain ⟨g, cap, h1, h2, h3⟩ := h; exact ⟨g, cap, h1, h2, ai_ h3 hb⟩)] (by kernel_rfl) (by kernel_rfl) ?_ ?_
 · simp only [ck_, List.take, List.length]
   refine ⟨?_, ?_, ?_, ?_, ?_, ?_, ?_, ?_, ?_⟩
   all_goals first | trivial | (intro a w1 hb hf hd)
   all_goals have hf0 : z_ a 0 (.int .i64 0) := (hf 0).trans rfl
   all_goals have hf2 : zp_ a 2 pf 0 := (hf 2).trans rfl
   all_goals have wf := at_b hb vf
   all_goals have wpf := ab_ (at_b hb vpf) 0 rfl
   · exact gp_ (by simp [execOp, hf2, wpf, go_sem, pt])
   · exact gp_ (by simp [execOp, hf2, wpf, go_sem, pt])
   · have h0 : z_ a 29 _ := hd 1
     exact gp_ (by simp [execOp, h0, go_sem, pt])
   · have h0 : z_ a 30 _ := hd 2
     exact gp_ (by simp [execOp, h0, go_sem, pt])
   · have h0 : z_ a 31 _ := hd 3
     have h1 := ab_ wf 3 rfl
     exact gp_ (by simp [execOp, h0, h1, go_sem])
   · exact as_ _ rfl ⟨hf0, fun h => by cases h⟩
   · have h0 : z_ a 33 _ := hd 5
     exact av_ (v := sl 1 w1.heap.size) (w' := w1.alloc (.cells #[.int .i64 0] 3)) (by simp [execOp, h0, go_sem, sl]) ((Below.refl _ _).alloc (Nat.le_refl _) _) ⟨⟨_, rfl, heap_alloc_new _ _⟩, fun _ b hb => b2_ hb⟩
   · have h0 : z_ a 32 _ := hd 4
     obtain ⟨b, h1, h2⟩ : ∃ b, a.tmps[(34 : Nat)]?.getD undef = sl 1 b ∧ w1.heap[b]? = some (.cells #[.int .i64 0] 3 (0, 0)) := hd 6
     refine ca_ 32 34 38 3 (.int .i64 0) 1 8 rfl Tryz.underlying38 (by kernel_rfl) rfl (by omega) b 1 [.int .i64 0] h0 h1 h2 rfl (by simp [Value.oneCell']) (by omega) ?_
     intro cap w' ho hb'
     refine ⟨⟨_, cap, rfl, by have := hb.size; omega, ?_⟩, fun h => by cases h⟩
     exact ap_ ho (by have := hb.size; omega)
 · intro f1 w1 hb hs _ _
   have g28 : f1 28 = _ := hs 0 (by simp)
   obtain ⟨g, cap, g35, hg, hown⟩ : ∃ g cap, f1 35 = .slice (some ⟨g, 0, none⟩) 1 cap ∧ w.heap.size ≤ g ∧ w1.ownsRow w.heap.size 3 1 (.slice (some ⟨g, 0, none⟩) 1 cap) 1 [.int .i64 0] := hs 7 (by simp)
   clear hs
   rw [show (List.range (List.length _)).map (a1_ _) = [28, 29, 30, 31, 32, 33, 34, 35] from by kernel_rfl]
   simp only [dw_, List.foldl, Act.put, List.drop, List.length, g28, g35, List.setIfInBounds_toArray, List.set_cons_zero, List.set_cons_succ]
   have wf := at_b hb vf
   have c3 := ab_ wf 3 rfl; have f3 := ag_ wf 3
   have wr := at_b hb vr
   have r0 := ab_ wr 0 rfl; have r1 := ab_ wr 1 rfl; have fr0 := ag_ wr 0; have fr1 := ag_ wr 1
   have nrf := am_ wr wf (by decide)
   have HK := h8_ wf hb hown v2 v3 wr vo hg
   clear wf hb hown v2 v3 vr wr vo vf vpf g28 g35 hsz hg
   unfold pt
   go_wp2
   obtain ⟨wf, hb, hown, v2, v3, wr, vo, hg⟩ := HK.out
   have h2 := at_b hb v2
   have h3 := at_b hb v3
   have nf2 := am_ wf h2 (by decide); have nf3 := am_ wf h3 (by decide)
   have nr2 := am_ wr h2 (by decide); have nr3 := am_ wr h3 (by decide)
   have hno : ¬ g = f := fun e => by obtain ⟨_, _, cur, hcur⟩ := ah_ hown; subst e; rw [wf] at hcur; simp at hcur
   have hnr : ¬ g = w.heap.size := fun e => by obtain ⟨_, _, cur, hcur⟩ := ah_ hown; subst e; rw [wr] at hcur; simp at hcur
   refine bodyPost_ret (v := .agg #[.int .i64 0, .int .i64 0]) (da_ rfl _ _ _ 500 _ (0, 0) _ rfl (aj_ (aj_ (ay_ wr _ _ nrf) 0 _) 1 _) Tryz.underlying500 rfl (by kernel_rfl)) rfl ?_
   refine ⟨rfl, ?_, ay_ (ay_ (ay_ h2 _ _ (Ne.symm nf2)) _ _ (Ne.symm nr2)) _ _ (Ne.symm nr2), ay_ (ay_ (ay_ h3 _ _ (Ne.symm nf3)) _ _ (Ne.symm nr3)) _ _ (Ne.symm nr3), g, cap,
    ay_ (ay_ (aj_ wf 3 _) _ _ (Ne.symm nrf)) _ _ (Ne.symm nrf), hg, ?_⟩
   · exact (((vo.call hb).setCell _ _ (.inl (.inl rfl))).setCell _ _ (.inr (Nat.le_refl _))).setCell _ _ (.inr (Nat.le_refl _))
   · exact b6_ (b6_ (b6_ hown _ _ (by simpa [Value.ownBlock] using hno)) _ _ (by simpa [Value.ownBlock] using hnr)) _ _ (by simpa [Value.ownBlock] using hnr)
end
end Go.Proofs.YtacaejpamidkcaaGreatDoor
