/- graph: (*finder).find's closure 'enter' at node 0. -/
import Derived.Test.YtkbilipgidcgeaaGreatDoorH15
set_option linter.unusedVariables false
set_option linter.unusedSimpArgs false
namespace Go.Proofs.YtkbilipgidcgeaaGreatDoor
open Go.RowKit
attribute [local go_sem] ext_cell ext_frozen run_store_func mk_ints0 mk_ints1 mk_ints2 mk_lists0 mk_lists1 mk_lists2

set_option maxRecDepth 100000 in
set_option maxHeartbeats 1000000 in
theorem genter (f b1 b2 b3 b4 c pf pc : Nat) (w : World) (n23 : b2 ≠ b3) (hpf : w.heap[pf]? = some (.cells [pt f].toArray 379 (0, 0))) (hpc : w.heap[pc]? = some (.cells [pt c].toArray 287 (0, 0)))
    (hf : w.heap[f]? = some (.cells [sl 1 b1, sl 1 b2, sl 1 b3, .slice none 0 0, sl 1 b4, .slice none 0 0].toArray 340 (0, 0)))
    (h2 : w.heap[b2]? = some (.cells [.int .i64 0].toArray 3 (0, 0))) (h3 : w.heap[b3]? = some (.cells [.int .i64 0].toArray 3 (0, 0))) (hc : w.heap[c]? = some (.cells [.int .i64 0].toArray 3 (0, 0))) (nc2 : c ≠ b2) (nc3 : c ≠ b3) :
    Calls Tryz.prog 296 #[.int .i64 0, pt pc, pt pf] w fun e w' => e = .returned (.agg #[.int .i64 0, .int .i64 0]) ∧ Only (fun b => b = f ∨ b = b2 ∨ b = b3 ∨ b = c) w w' ∧
      w'.heap[b2]? = some (.cells [.int .i64 1].toArray 3 (0, 0)) ∧ w'.heap[b3]? = some (.cells [.int .i64 1].toArray 3 (0, 0)) ∧
      ∃ g cap, w'.heap[f]? = some (.cells [sl 1 b1, sl 1 b2, sl 1 b3, .slice (some ⟨g, 0, none⟩) 1 cap, sl 1 b4, .slice none 0 0].toArray 340 (0, 0)) ∧ w.heap.size ≤ g ∧ w'.ownsRow w.heap.size 3 1 (.slice (some ⟨g, 0, none⟩) 1 cap) 1 [.int .i64 0] := by
  unfold sl pt at *
  have c0 := cell_l hf 0 rfl; have f0 := free_in hf 0; have c1 := cell_l hf 1 rfl; have f1 := free_in hf 1; have c2 := cell_l hf 2 rfl; have f2 := free_in hf 2; have c3 := cell_l hf 3 rfl; have f3 := free_in hf 3
  have d2 := cell_l h2 0 rfl; have e2 := free_in h2 0
  have d3 := cell_l h3 0 rfl; have e3 := free_in h3 0
  have dc := cell_l hc 0 rfl; have ec := free_in hc 0
  have xf := cell_l hpf 0 rfl; have xc := cell_l hpc 0 rfl
  have l1 := lt_of_block hf; have l2 := lt_of_block h2; have l3 := lt_of_block h3; have l4 := lt_of_block hc; have l5 := lt_of_block hpf; have l6 := lt_of_block hpc
  have nf2 := block_ne hf h2 (by decide); have nf3 := block_ne hf h3 (by decide); have nfc := block_ne hf hc (by decide)
  have npf := block_ne hpf hc (by decide); have npc := block_ne hpc hc (by decide)
  have HH := Lib.hid (And.intro hf (And.intro h2 (And.intro h3 (And.intro hc (And.intro hpf hpc)))))
  clear hf h2 h3 hc hpf hpc
  go_enter Tryz.func296, Tryz.ntmps296
  go_wp2
  refine name_world fun W hW => ?_
  have LL := Lib.hid (And.intro nf2 (And.intro nf3 (And.intro nfc (And.intro npf (And.intro npc n23)))))
  have kf : W.heap[f]? = some (.cells [.slice (some ⟨b1, 0, none⟩) 1 1, .slice (some ⟨b2, 0, none⟩) 1 1, .slice (some ⟨b3, 0, none⟩) 1 1, .slice none 0 0, .slice (some ⟨b4, 0, none⟩) 1 1, .slice none 0 0].toArray 340 (0, 0)) := by
    rw [← hW]; exact block_old (block_other HH.out.1 _ _ nfc)
  have k2 : W.heap[b2]? = some (.cells [.int .i64 0].toArray 3 (0, 0)) := by rw [← hW]; exact block_old (block_other HH.out.2.1 _ _ (Ne.symm nc2))
  have k3 : W.heap[b3]? = some (.cells [.int .i64 0].toArray 3 (0, 0)) := by rw [← hW]; exact block_old (block_other HH.out.2.2.1 _ _ (Ne.symm nc3))
  have kc : W.heap[c]? = some (.cells [.int .i64 1].toArray 3 (0, 0)) := by rw [← hW]; exact block_old (block_set HH.out.2.2.2.1 0 _)
  have kpf : W.heap[pf]? = some (.cells [.pointer (some ⟨f, 0, none⟩)].toArray 379 (0, 0)) := by rw [← hW]; exact block_old (block_other HH.out.2.2.2.2.1 _ _ npf)
  have kpc : W.heap[pc]? = some (.cells [.pointer (some ⟨c, 0, none⟩)].toArray 287 (0, 0)) := by rw [← hW]; exact block_old (block_other HH.out.2.2.2.2.2 _ _ npc)
  have kr : W.heap[w.heap.size]? = some (.cells [.int .i64 0, .int .i64 0].toArray 381 (0, 0)) := by rw [← hW]; have := heap_alloc_new (w.setCell ⟨c, 0, none⟩ (.int .i64 1)) (.cells #[.int .i64 0, .int .i64 0] 381); simpa using this
  have ho : Only (fun b => b = f ∨ b = b2 ∨ b = b3 ∨ b = c) w W := by rw [← hW]; exact ((Only.refl _ w).setCell _ _ (.inl (.inr (.inr (.inr rfl))))).alloc _
  clear c0 f0 c1 f1 c2 f2 c3 f3 d2 e2 d3 e3 dc ec xf xc l1 l2 l3 l4 l5 l6
  have c1 := cell_l kf 1 rfl; have c2 := cell_l kf 2 rfl; have c3 := cell_l kf 3 rfl
  have d2 := cell_l k2 0 rfl; have e2 := free_in k2 0
  have d3 := cell_l k3 0 rfl; have e3 := free_in k3 0
  have dc := cell_l kc 0 rfl; have xf := cell_l kpf 0 rfl; have xc := cell_l kpc 0 rfl
  have HK := Lib.hid (And.intro kf (And.intro k2 (And.intro k3 (And.intro kc (And.intro kpf (And.intro kpc (And.intro kr ho)))))))
  clear kf k2 k3 kc kpf kpc kr ho hW nf2 nf3 nfc npf npc
  have n32 := Ne.symm n23
  go_region
  go_wp2
  clear c1 c2 c3 d2 e2 d3 e3 dc xf xc
  obtain ⟨kf, k2, k3, kc, kpf, kpc, kr, ho⟩ := HK.out
  refine name_world fun V hV => ?_
  have vf : V.heap[f]? = some (.cells [.slice (some ⟨b1, 0, none⟩) 1 1, .slice (some ⟨b2, 0, none⟩) 1 1, .slice (some ⟨b3, 0, none⟩) 1 1, .slice none 0 0, .slice (some ⟨b4, 0, none⟩) 1 1, .slice none 0 0].toArray 340 (0, 0)) := by
    rw [← hV]; exact block_drew (block_other (block_other kf _ _ LL.out.1) _ _ LL.out.2.1)
  have v2 : V.heap[b2]? = some (.cells [.int .i64 1].toArray 3 (0, 0)) := by rw [← hV]; exact block_drew (block_other (block_set k2 0 _) _ _ n23)
  have v3 : V.heap[b3]? = some (.cells [.int .i64 1].toArray 3 (0, 0)) := by rw [← hV]; exact block_drew (block_set (block_other k3 _ _ n32) 0 _)
  have vpf : V.heap[pf]? = some (.cells [.pointer (some ⟨f, 0, none⟩)].toArray 379 (0, 0)) := by
    rw [← hV]; exact block_drew (block_other (block_other kpf _ _ (block_ne kpf k2 (by decide))) _ _ (block_ne kpf k3 (by decide)))
  have vr : V.heap[w.heap.size]? = some (.cells [.int .i64 0, .int .i64 0].toArray 381 (0, 0)) := by
    rw [← hV]; exact block_drew (block_other (block_other kr _ _ (block_ne kr k2 (by decide))) _ _ (block_ne kr k3 (by decide)))
  have vo : Only (fun b => b = f ∨ b = b2 ∨ b = b3 ∨ b = c) w V := by rw [← hV]; exact ((ho.setCell _ _ (.inl (.inr (.inl rfl)))).setCell _ _ (.inl (.inr (.inr (.inl rfl))))).drew
  clear kf k2 k3 kc kpf kpc kr ho hV HK LL n23 n32 HH W
  have hsz := vo.size
  refine wp_region_facts [.val (pt f), .val (pt f), .val (pt f), .val (.pointer (some ⟨f, 3, none⟩)), .val (.slice none 0 0), .val (.int .i64 0), .blk (sl 1) (.cells #[.int .i64 0] 3 (0, 0)),
    .more (fun v w' => ∃ g cap, v = .slice (some ⟨g, 0, none⟩) 1 cap ∧ w.heap.size ≤ g ∧ w'.ownsRow w.heap.size 3 1 (.slice (some ⟨g, 0, none⟩) 1 cap) 1 [.int .i64 0]) (fun v w' w'' hb h => by obtain ⟨g, cap, h1, h2, h3⟩ := h; exact ⟨g, cap, h1, h2, ownsRow_below' h3 hb⟩)] (by kernel_rfl) (by kernel_rfl) ?_ ?_
  · simp only [stepsAll, List.take, List.length]
    refine ⟨?_, ?_, ?_, ?_, ?_, ?_, ?_, ?_, ?_⟩
    all_goals first | trivial | (intro a w1 hb hf hd)
    all_goals have hf0 : a.tmps[(0 : Nat)]?.getD undef = .int .i64 0 := (hf 0 (by decide +kernel)).trans rfl
    all_goals have hf2 : a.tmps[(2 : Nat)]?.getD undef = .pointer (some ⟨pf, 0, none⟩) := (hf 2 (by decide +kernel)).trans rfl
    all_goals have wf := (hb.block _ (lt_of_block vf)).trans vf
    all_goals have wpf := cell_l ((hb.block _ (lt_of_block vpf)).trans vpf) 0 rfl
    · exact grow_value (v := pt f) (by simp [execOp, hf2, wpf, go_sem, pt]) (Below.refl _ _) ⟨rfl, fun h => by cases h⟩
    · exact grow_value (v := pt f) (by simp [execOp, hf2, wpf, go_sem, pt]) (Below.refl _ _) ⟨rfl, fun h => by cases h⟩
    · have h0 : a.tmps[(29 : Nat)]?.getD undef = pt f := hd 1 (by decide) (by kernel_rfl)
      exact grow_value (v := pt f) (by simp [execOp, h0, go_sem, pt]) (Below.refl _ _) ⟨rfl, fun h => by cases h⟩
    · have h0 : a.tmps[(30 : Nat)]?.getD undef = pt f := hd 2 (by decide) (by kernel_rfl)
      exact grow_value (v := .pointer (some ⟨f, 3, none⟩)) (by simp [execOp, h0, go_sem, pt]) (Below.refl _ _) ⟨rfl, fun h => by cases h⟩
    · have h0 : a.tmps[(31 : Nat)]?.getD undef = .pointer (some ⟨f, 3, none⟩) := hd 3 (by decide) (by kernel_rfl)
      have h1 := cell_l wf 3 rfl
      exact grow_value (v := .slice none 0 0) (by simp [execOp, h0, h1, go_sem]) (Below.refl _ _) ⟨rfl, fun h => by cases h⟩
    · exact grow_tmp _ rfl ⟨hf0, fun h => by cases h⟩
    · have h0 : a.tmps[(33 : Nat)]?.getD undef = .int .i64 0 := hd 5 (by decide) (by kernel_rfl)
      exact grow_value (v := sl 1 w1.heap.size) (w' := w1.alloc (.cells #[.int .i64 0] 3)) (by simp [execOp, h0, go_sem, sl]) ((Below.refl _ _).alloc (Nat.le_refl _) _) ⟨⟨_, rfl, heap_alloc_new _ _⟩, fun _ b hb => new_slice hb⟩
    · have h0 : a.tmps[(32 : Nat)]?.getD undef = .slice none 0 0 := hd 4 (by decide) (by kernel_rfl)
      obtain ⟨b, h1, h2⟩ : ∃ b, a.tmps[(34 : Nat)]?.getD undef = sl 1 b ∧ w1.heap[b]? = some (.cells #[.int .i64 0] 3 (0, 0)) := hd 6 (by decide) (by kernel_rfl)
      refine grow_append_nil 32 34 31 3 (.int .i64 0) 1 8 rfl Tryz.underlying31 (by kernel_rfl) rfl (by omega) b 1 [.int .i64 0] h0 h1 h2 rfl (by simp [Value.oneCell']) (by omega) ?_
      intro cap w' ho hb'
      refine ⟨⟨_, cap, rfl, by have := hb.size; omega, ?_⟩, fun h => by cases h⟩
      exact ownsRow_lower ho (by have := hb.size; omega)
  · intro f1 w1 hb hs _ _
    have g28 : f1 28 = pt f := hs 0 (by simp)
    obtain ⟨g, cap, g35, hg, hown⟩ : ∃ g cap, f1 35 = .slice (some ⟨g, 0, none⟩) 1 cap ∧ w.heap.size ≤ g ∧ w1.ownsRow w.heap.size 3 1 (.slice (some ⟨g, 0, none⟩) 1 cap) 1 [.int .i64 0] := hs 7 (by simp)
    clear hs
    rw [show (List.range (List.length _)).map (dstOf _) = [28, 29, 30, 31, 32, 33, 34, 35] from by kernel_rfl]
    simp only [actOf, List.foldl, Act.put, List.drop, List.length, g28, g35, List.setIfInBounds_toArray, List.set_cons_zero, List.set_cons_succ]
    have wf := (hb.block _ (lt_of_block vf)).trans vf
    have c3 := cell_l wf 3 rfl; have f3 := free_in wf 3
    have wr := (hb.block _ (lt_of_block vr)).trans vr
    have r0 := cell_l wr 0 rfl; have r1 := cell_l wr 1 rfl; have fr0 := free_in wr 0; have fr1 := free_in wr 1
    have nrf := block_ne wr wf (by decide)
    have HK := Lib.hid (And.intro wf (And.intro hb (And.intro hown (And.intro v2 (And.intro v3 (And.intro wr (And.intro vo hg)))))))
    clear wf hb hown v2 v3 vr wr vo vf vpf g28 g35 hsz hg
    unfold pt
    go_wp2
    obtain ⟨wf, hb, hown, v2, v3, wr, vo, hg⟩ := HK.out
    have h2 := (hb.block _ (lt_of_block v2)).trans v2
    have h3 := (hb.block _ (lt_of_block v3)).trans v3
    have nf2 := block_ne wf h2 (by decide); have nf3 := block_ne wf h3 (by decide)
    have nr2 := block_ne wr h2 (by decide); have nr3 := block_ne wr h3 (by decide)
    have hno : ¬ g = f := fun e => by obtain ⟨_, _, cur, hcur⟩ := ownsRow_lt hown; subst e; rw [wf] at hcur; simp at hcur
    have hnr : ¬ g = w.heap.size := fun e => by obtain ⟨_, _, cur, hcur⟩ := ownsRow_lt hown; subst e; rw [wr] at hcur; simp at hcur
    refine bodyPost_ret (v := .agg #[.int .i64 0, .int .i64 0]) (results_cell1 rfl _ _ _ 381 _ (0, 0) _ rfl (block_set (block_set (block_other wr _ _ nrf) 0 _) 1 _) Tryz.underlying381 rfl (by kernel_rfl)) rfl ?_
    refine ⟨rfl, ?_, block_other (block_other (block_other h2 _ _ (Ne.symm nf2)) _ _ (Ne.symm nr2)) _ _ (Ne.symm nr2), block_other (block_other (block_other h3 _ _ (Ne.symm nf3)) _ _ (Ne.symm nr3)) _ _ (Ne.symm nr3), g, cap,
      block_other (block_other (block_set wf 3 _) _ _ (Ne.symm nrf)) _ _ (Ne.symm nrf), hg, ?_⟩
    · exact (((vo.call hb).setCell _ _ (.inl (.inl rfl))).setCell _ _ (.inr (Nat.le_refl _))).setCell _ _ (.inr (Nat.le_refl _))
    · exact ownsRow_other (ownsRow_other (ownsRow_other hown _ _ (by simpa [Value.ownBlock] using hno)) _ _ (by simpa [Value.ownBlock] using hnr)) _ _ (by simpa [Value.ownBlock] using hnr)
end Go.Proofs.YtkbilipgidcgeaaGreatDoor
