/- graph: (*finder).close at node 0. graph: (*finder).find at node 0 without arcs. container/heap at one part. -/
import Derived.Test.YtkbilipgidcgeaaGreatDoorH15
import Derived.Test.YtkbilipgidcgeaaGreatDoorH09
import Derived.Test.YtkbilipgidcgeaaGreatDoorH16
import Derived.Test.YtkbilipgidcgeaaGreatDoorH10
set_option linter.unusedVariables false
set_option linter.unusedSimpArgs false
namespace Go.Proofs.YtkbilipgidcgeaaGreatDoor
open Go.RowKit
attribute [local go_sem] ext_cell ext_frozen run_store_func mk_ints0 mk_ints1 mk_ints2 mk_lists0 mk_lists1 mk_lists2


set_option maxRecDepth 100000 in
set_option maxHeartbeats 1000000 in
theorem gclose (f b1 b2 b3 b4 g cap : Nat) (w : World)
    (hf : w.heap[f]? = some (.cells [sl 1 b1, sl 1 b2, sl 1 b3, .slice (some ⟨g, 0, none⟩) 1 cap, sl 1 b4, .slice none 0 0].toArray 340 (0, 0)))
    (h4 : w.heap[b4]? = some (.cells [.int .i64 0].toArray 3 (0, 0))) (hown : w.ownsRow 0 3 1 (.slice (some ⟨g, 0, none⟩) 1 cap) 1 [.int .i64 0]) (hc : 1 ≤ cap) :
    Calls Tryz.prog 297 #[pt f, .int .i64 0] w fun e w' => e = .returned (.tuple #[]) ∧ Only (fun b => b = f ∨ b = b4) w w' ∧
      w'.heap[b4]? = some (.cells [.int .i64 1].toArray 3 (0, 0)) ∧ ∃ g6 c6 g7 c7,
      w'.heap[f]? = some (.cells [sl 1 b1, sl 1 b2, sl 1 b3, .slice (some ⟨g, 0, none⟩) 0 cap, sl 1 b4, .slice (some ⟨g6, 0, none⟩) 1 c6].toArray 340 (0, 0)) ∧
      w'.ownsRow w.heap.size 31 1 (.slice (some ⟨g6, 0, none⟩) 1 c6) 1 [.slice (some ⟨g7, 0, none⟩) 1 c7] ∧ w'.ownsRow w.heap.size 3 1 (.slice (some ⟨g7, 0, none⟩) 1 c7) 1 [.int .i64 0] := by
  unfold sl pt at *
  have nf4 := block_ne hf h4 (by decide)
  have lb4 := lt_of_block h4
  have c3 := cell_l hf 3 rfl
  have cg := ownsRow_cell1 hown
  have lg := (ownsRow_lt hown).2.1
  have HC := Lib.hid (show ∀ (j : Nat) (u : Value), ([.int .i64 0] : List Value)[j]? = some u → w.cell? ⟨g, j, none⟩ = some u from fun j u hj => by
    rcases j with _ | j
    · simp at hj; subst hj; exact cg
    · simp at hj)
  have HH := Lib.hid (And.intro hf (And.intro h4 (And.intro hown nf4)))
  clear hf h4 hown nf4
  go_enter Tryz.func297, Tryz.ntmps297
  go_wp2
  refine wp_loop_rounds 1 ?_
  rw [rounds_succ]
  go_wp2_with (go_at_call 100; refine (clone_ints g 1 cap [.int .i64 0] _ HC.out rfl (by simp [Value.oneCell']) (by omega) (by omega) lg).mono ?_; rintro e w1 ⟨hb1, g7, c7, rfl, hown1⟩; have H1 := Lib.hid (And.intro hb1 hown1); have c3' := cell_l ((hb1.block _ (lt_of_block HH.out.1)).trans HH.out.1) 3 rfl; have f3' := free_in ((hb1.block _ (lt_of_block HH.out.1)).trans HH.out.1) 3; clear hb1 hown1)
  refine (sort_short _ 1 _ _ (by omega)).mono ?_
  rintro e V ⟨rfl, hV⟩
  obtain ⟨hf, h4, hown, nf4⟩ := HH.out
  obtain ⟨hb1, hown1⟩ := H1.out
  have l7 := ownsRow_lt hown1
  have kf := (hb1.block _ (lt_of_block hf)).trans hf
  have k4 := (hb1.block _ (lt_of_block h4)).trans h4
  have hV' : Only (fun b => b = f ∨ b = b4) w V := by rw [← hV]; exact (Only.of_below hb1).setCell _ _ (.inl (.inl rfl))
  have vf : V.heap[f]? = some (.cells [.slice (some ⟨b1, 0, none⟩) 1 1, .slice (some ⟨b2, 0, none⟩) 1 1, .slice (some ⟨b3, 0, none⟩) 1 1, .slice (some ⟨g, 0, none⟩) 0 cap, .slice (some ⟨b4, 0, none⟩) 1 1, .slice none 0 0].toArray 340 (0, 0)) := by
    rw [← hV]; exact block_set kf 3 _
  have v4 : V.heap[b4]? = some (.cells [.int .i64 0].toArray 3 (0, 0)) := by rw [← hV]; exact block_other k4 _ _ (Ne.symm nf4)
  have vown : V.ownsRow w.heap.size 3 1 (.slice (some ⟨g7, 0, none⟩) 1 c7) 1 [.int .i64 0] := by
    rw [← hV]; exact ownsRow_other hown1 _ _ (by obtain ⟨_, _, cur, hcur⟩ := l7; simpa [Value.ownBlock] using block_ne hcur kf (by decide))
  have hsV : V.heap.size = w1.heap.size := by rw [← hV]; simp
  have d5 := cell_l vf 5 rfl
  have lf := lt_of_block vf
  have HV := Lib.hid (And.intro hV' (And.intro vf (And.intro v4 (And.intro vown hb1.size))))
  clear hf h4 hown nf4 hb1 hown1 l7 kf k4 hV' vf v4 vown hV H1 HH c3 cg lg HC c3' f3' hsV
  go_wp2_with (first
    | (go_at_call 182; refine (sort_short _ 1 _ _ (by omega)).mono ?_; rintro e w2 ⟨rfl, rfl⟩)
    | (at_builtin; refine wpList_append_nil rfl _ _ 277 31 (.slice none 0 0) 1 24 rfl Tryz.underlying277 (by kernel_rfl) rfl (by omega) V.heap.size 1 [.slice (some ⟨g7, 0, none⟩) 1 c7] rfl rfl (heap_alloc_new _ _) rfl (by simp [Value.oneCell']) (by omega) (V.heap.size + 1) (by simp) ?_; intro c6 w3 hown3 hb3; have H3 := Lib.hid (And.intro hown3 hb3); have d5' := (hb3.cell (p := ⟨f, 5, none⟩) (show f < V.heap.size + 1 by omega)).trans ((World.cell?_alloc_past _ _ _ (show f < V.heap.size by omega)).trans d5); have fr5 := free_in ((hb3.block f (by omega)).trans (block_old HV.out.2.1)) 5; clear hown3 hb3))
  refine name_world fun X hX => ?_
  obtain ⟨hV', vf, v4, vown, hsz⟩ := HV.out
  obtain ⟨hown3, hb3⟩ := H3.out
  have l7 := ownsRow_lt vown
  have wf := (hb3.block f (by omega)).trans (block_old (o' := .cells #[.slice (some ⟨g7, 0, none⟩) 1 c7] 31) vf)
  have w4 := (hb3.block b4 (by have := lt_of_block v4; omega)).trans (block_old (o' := .cells #[.slice (some ⟨g7, 0, none⟩) 1 c7] 31) v4)
  have wown : w3.ownsRow w.heap.size 3 1 (.slice (some ⟨g7, 0, none⟩) 1 c7) 1 [.int .i64 0] :=
    ownsRow_below' (ownsRow_below' vown ((Below.refl _ _).alloc (Nat.le_refl _) (.cells #[.slice (some ⟨g7, 0, none⟩) 1 c7] 31))) (by simpa using hb3)
  have xo : Only (fun b => b = f ∨ b = b4) w X := by
    rw [← hX]; exact ((hV'.alloc (.cells #[.slice (some ⟨g7, 0, none⟩) 1 c7] 31)).call (by simpa using hb3)).setCell _ _ (.inl (.inl rfl))
  have xf : X.heap[f]? = some (.cells [.slice (some ⟨b1, 0, none⟩) 1 1, .slice (some ⟨b2, 0, none⟩) 1 1, .slice (some ⟨b3, 0, none⟩) 1 1, .slice (some ⟨g, 0, none⟩) 0 cap, .slice (some ⟨b4, 0, none⟩) 1 1, .slice (some ⟨V.heap.size + 1, 0, none⟩) 1 c6].toArray 340 (0, 0)) := by
    rw [← hX]; exact block_set wf 5 _
  have x4 : X.heap[b4]? = some (.cells [.int .i64 0].toArray 3 (0, 0)) := by rw [← hX]; exact block_other w4 _ _ (block_ne w4 wf (by decide))
  have xown : X.ownsRow w.heap.size 3 1 (.slice (some ⟨g7, 0, none⟩) 1 c7) 1 [.int .i64 0] := by
    rw [← hX]; exact ownsRow_other wown _ _ (by obtain ⟨_, _, cur, hcur⟩ := ownsRow_lt wown; simpa [Value.ownBlock] using block_ne hcur wf (by decide))
  have xown6 : X.ownsRow w.heap.size 31 1 (.slice (some ⟨V.heap.size + 1, 0, none⟩) 1 c6) 1 [.slice (some ⟨g7, 0, none⟩) 1 c7] := by
    rw [← hX]; exact ownsRow_other (ownsRow_lower hown3 (by have := hV'.size; omega)) _ _ (by obtain ⟨_, _, cur, hcur⟩ := ownsRow_lt hown3; simpa [Value.ownBlock] using block_ne hcur wf (by decide))
  have e4 := cell_l xf 4 rfl; have e5 := cell_l xf 5 rfl
  have m4 := cell_l x4 0 rfl; have fm4 := free_in x4 0
  have e7 := ownsRow_cell1 xown
  have HX := Lib.hid (And.intro xo (And.intro xf (And.intro x4 (And.intro xown xown6))))
  clear xo xf x4 xown xown6 wf w4 wown l7 hV' vf v4 vown hown3 hb3 hX HV H3 d5 d5' fr5 lf hsz
  refine wp_loop_rounds 2 ?_
  rw [rounds_succ]
  go_wp2
  go_region
  go_wp2
  rw [rounds_succ]
  go_wp2
  go_end0
  obtain ⟨xo, xf, x4, xown, xown6⟩ := HX.out
  have nf4 := block_ne xf x4 (by decide)
  refine ⟨rfl, (xo.setCell _ _ (.inl (.inr rfl))).drew, block_drew (block_set x4 0 _), V.heap.size + 1, c6, g7, c7, block_drew (block_other xf _ _ nf4), ?_, ?_⟩
  · exact ownsRow_other xown6 _ _ (by obtain ⟨_, _, cur, hcur⟩ := ownsRow_lt xown6; simpa [Value.ownBlock] using block_ne hcur x4 (by decide))
  · exact ownsRow_other xown _ _ (by have := (ownsRow_lt xown).1; simp [Value.ownBlock]; omega)
end Go.Proofs.YtkbilipgidcgeaaGreatDoor

namespace Go.Proofs.YtkbilipgidcgeaaGreatDoor
open Go.RowKit
attribute [local go_sem] ext_cell ext_frozen run_store_func mk_ints0 mk_ints1 mk_ints2 mk_lists0 mk_lists1 mk_lists2

def FindPost (f b1 b2 b3 b4 c : Nat) (w : World) (e : Ending) (w' : World) : Prop :=
  e = .returned (.tuple #[]) ∧ Only (fun b => b = f ∨ b = b2 ∨ b = b3 ∨ b = b4 ∨ b = c) w w' ∧
      w'.heap[b4]? = some (.cells [.int .i64 1].toArray 3 (0, 0)) ∧ ∃ stk g6 c6 g7 c7,
      w'.heap[f]? = some (.cells [sl 1 b1, sl 1 b2, sl 1 b3, stk, sl 1 b4, .slice (some ⟨g6, 0, none⟩) 1 c6].toArray 340 (0, 0)) ∧
      w'.ownsRow w.heap.size 31 1 (.slice (some ⟨g6, 0, none⟩) 1 c6) 1 [.slice (some ⟨g7, 0, none⟩) 1 c7] ∧ w'.ownsRow w.heap.size 3 1 (.slice (some ⟨g7, 0, none⟩) 1 c7) 1 [.int .i64 0]

theorem ownsRow_cap {w : World} {base : Nat} {e : TypeId} {size g cap : Nat} {n : Nat} {xs : List Value} (h : w.ownsRow base e size (.slice (some ⟨g, 0, none⟩) n cap) n xs) : n ≤ cap := by
  rcases h.2 with ⟨h0, _⟩ | ⟨g', cap', cur, h1, h2, h3, h4, _⟩
  · cases h0
  · simp only [Value.slice.injEq, Option.some.injEq, Addr.mk.injEq, and_true, true_and] at h1
    obtain ⟨rfl, rfl⟩ := h1
    exact h4

set_option maxRecDepth 100000 in
set_option maxHeartbeats 1000000 in
theorem gfind (f b1 b2 b3 b4 c : Nat) (w : World) (n23 : b2 ≠ b3) (n24 : b2 ≠ b4) (n34 : b3 ≠ b4) (nc2 : c ≠ b2) (nc3 : c ≠ b3) (nc4 : c ≠ b4)
    (hf : w.heap[f]? = some (.cells [sl 1 b1, sl 1 b2, sl 1 b3, .slice none 0 0, sl 1 b4, .slice none 0 0].toArray 340 (0, 0)))
    (h1 : w.heap[b1]? = some (.cells [.slice none 0 0].toArray 31 (0, 0))) (h2 : w.heap[b2]? = some (.cells [.int .i64 0].toArray 3 (0, 0))) (h3 : w.heap[b3]? = some (.cells [.int .i64 0].toArray 3 (0, 0)))
    (h4 : w.heap[b4]? = some (.cells [.int .i64 0].toArray 3 (0, 0))) (hc : w.heap[c]? = some (.cells [.int .i64 0].toArray 3 (0, 0))) :
    Calls Tryz.prog 210 #[pt f, .int .i64 0, pt c] w (FindPost f b1 b2 b3 b4 c w) := by
  have HH := Lib.hid (And.intro hf (And.intro h1 (And.intro h2 (And.intro h3 (And.intro h4 hc)))))
  have HN := Lib.hid (And.intro n23 (And.intro n24 (And.intro n34 (And.intro nc2 (And.intro nc3 nc4)))))
  have l4 := lt_of_block h4; have l1 := lt_of_block h1; have lf := lt_of_block hf
  clear hf h1 h2 h3 h4 hc n23 n24 n34 nc2 nc3 nc4
  go_enter Tryz.func210, Tryz.ntmps210
  unfold pt
  go_wp2_with fail
  obtain ⟨n23, n24, n34, nc2, nc3, nc4⟩ := HN.out
  obtain ⟨hf, h1, h2, h3, h4, hc⟩ := HH.out
  refine (genter f b1 b2 b3 b4 c w.heap.size (w.heap.size + 1) _ n23 (block_old (heap_alloc_new _ _)) (heap_alloc2_new w _ _) (block_old (block_old hf)) (block_old (block_old h2)) (block_old (block_old h3)) (block_old (block_old hc)) nc2 nc3).mono ?_
  rintro e w1 ⟨rfl, ho1, k2, k3, g, cap, kf, hg, hown⟩
  have k0 : w1.heap[w.heap.size]? = some (.cells [.pointer (some ⟨f, 0, none⟩)].toArray 379 (0, 0)) := ho1.kept (block_old (heap_alloc_new _ _)) (by have := block_ne (heap_alloc_new w (.cells #[pt f] 379)) (block_old hc) (by decide); have := lt_of_block h2; have := lt_of_block h3; have := lt_of_block hc; omega)
  have k1 : w1.heap[b1]? = some (.cells [.slice none 0 0].toArray 31 (0, 0)) := ho1.kept (block_old (block_old h1)) (by have a1 := block_ne h1 hf (by decide); have a2 := block_ne h1 h2 (by decide); have a3 := block_ne h1 h3 (by decide); have a4 := block_ne h1 hc (by decide); omega)
  have k4 : w1.heap[b4]? = some (.cells [.int .i64 0].toArray 3 (0, 0)) := ho1.kept (block_old (block_old h4)) (by have a1 := block_ne h4 hf (by decide); omega)
  have HA := Lib.hid (And.intro hf (And.intro ho1 (And.intro k2 (And.intro k3 (And.intro kf (And.intro hg (And.intro hown (And.intro k0 (And.intro k1 k4)))))))))
  clear hf h1 h2 h3 h4 hc n23 n24 n34 nc2 nc3 nc4 ho1 k2 k3 kf hg hown k0 k1 k4
  go_wp2_with fail
  refine name_world fun W hW => ?_
  obtain ⟨hf0, ho1, k2, k3, kf, hg, hown, k0, k1, k4⟩ := HA.out
  have v2 : W.heap[b2]? = some (.cells [.int .i64 1].toArray 3 (0, 0)) := by rw [← hW]; exact block_old k2
  have v3 : W.heap[b3]? = some (.cells [.int .i64 1].toArray 3 (0, 0)) := by rw [← hW]; exact block_old k3
  have v4 : W.heap[b4]? = some (.cells [.int .i64 0].toArray 3 (0, 0)) := by rw [← hW]; exact block_old k4
  have v1 : W.heap[b1]? = some (.cells [.slice none 0 0].toArray 31 (0, 0)) := by rw [← hW]; exact block_old k1
  have v0 : W.heap[w.heap.size]? = some (.cells [.pointer (some ⟨f, 0, none⟩)].toArray 379 (0, 0)) := by rw [← hW]; exact block_old k0
  have vf : W.heap[f]? = some (.cells [sl 1 b1, sl 1 b2, sl 1 b3, .slice (some ⟨g, 0, none⟩) 1 cap, sl 1 b4, .slice none 0 0].toArray 340 (0, 0)) := by rw [← hW]; exact block_old kf
  have vc : W.heap[w1.heap.size]? = some (.cells [.int .i64 0, .int .i64 0].toArray 381 (0, 0)) := by rw [← hW]; exact heap_alloc_new _ _
  have vown : W.ownsRow w.heap.size 3 1 (.slice (some ⟨g, 0, none⟩) 1 cap) 1 [.int .i64 0] := by rw [← hW]; exact ownsRow_lower (ownsRow_below' hown ((Below.refl _ _).alloc (Nat.le_refl _) _)) (by simp; omega)
  have vo : Only (fun b => b = f ∨ b = b2 ∨ b = b3 ∨ b = b4 ∨ b = c) w W := by
    rw [← hW]; exact ((((Only.refl _ w).alloc (.cells #[pt f] 379)).alloc (.cells #[pt c] 287)).then ho1 (fun b _ hb => by omega)).alloc _
  have HW := Lib.hid (And.intro vf (And.intro v4 (And.intro vown vo)))
  unfold sl at vf
  have y0 := cell_l v0 0 rfl; have y1 := cell_l vf 0 rfl; have y2 := cell_l vf 1 rfl; have y3 := cell_l vf 2 rfl; have z1 := cell_l v1 0 rfl; have z2 := cell_l v2 0 rfl; have z3 := cell_l v3 0 rfl
  have x0 := cell_l vc 0 rfl; have x1 := cell_l vc 1 rfl
  clear hf0 ho1 k2 k3 kf hg hown k0 k1 k4 v2 v3 v4 v1 v0 vf vc vown vo hW HA HH HN
  refine wp_loop_rounds 2 ?_
  rw [rounds_succ]
  go_wp2
  go_region
  go_wp2
  go_region
  go_wp2_with fail
  obtain ⟨vf, v4, vown, vo⟩ := HW.out
  refine (gclose f b1 b2 b3 b4 g cap _ (block_drew (block_drew vf)) (block_drew (block_drew v4)) (ownsRow_lower vown (Nat.zero_le _)) (ownsRow_cap vown)).mono ?_
  rintro e w2 ⟨rfl, ho2, m4, g6, c6, g7, c7, mf, mown6, mown7⟩
  have HM := Lib.hid (And.intro (vo.drew.drew.then ho2 (fun b _ hb => by omega)) (And.intro m4 (And.intro mf (And.intro (ownsRow_lower mown6 (base' := w.heap.size) vo.size) (ownsRow_lower mown7 (base' := w.heap.size) vo.size)))))
  clear vf v4 vown vo ho2 m4 mf mown6 mown7 HW y0 y1 y2 y3 z1 z2 z3 x0 x1
  go_wp2
  rw [rounds_succ]
  go_wp2
  go_end0
  obtain ⟨ho, m4, mf, mown6, mown7⟩ := HM.out
  exact ⟨rfl, ho, m4, _, g6, c6, g7, c7, mf, mown6, mown7⟩
end Go.Proofs.YtkbilipgidcgeaaGreatDoor

namespace Go.Proofs.YtkbilipgidcgeaaGreatDoor
open Go.RowKit
attribute [local go_sem] ext_cell ext_frozen run_store_func mk_ints0 mk_ints1 mk_ints2 mk_lists0 mk_lists1 mk_lists2


theorem grow_append_zero {P : Program} {o : Oper} {a : Act} {w : World} {K : Value → World → Prop} (s x : Tmp) (t e : TypeId) (z : Value) (size bytes : Nat)
    (ho : o.op = .call { callee := .builtin .append, args := #[.tmp s, .tmp x], argTypes := #[t, t] }) (ht : P.underlying t = some (.slice e)) (hinfo : (P.info? e).map (fun i => (i.zero, i.size, i.bytes)) = some (some z, size, bytes))
    (hzs : z.cells.size = size) (hsz : 0 < size) (p b c : Nat) (l : List Value) (hs : a.tmps[s]?.getD undef = .slice (some ⟨p, 0, none⟩) 0 0) (hx : a.tmps[x]?.getD undef = .slice (some ⟨b, 0, none⟩) 1 c)
    (hb : w.heap[b]? = some (.cells l.toArray e (0, 0))) (hl : l.length = size) (hby : bytes ≤ 140737488355328)
    (h : ∀ g cap w', w'.ownsRow w.heap.size e size (.slice (some ⟨g, 0, none⟩) 1 cap) 1 l → Below w.heap.size w w' → K (.slice (some ⟨g, 0, none⟩) 1 cap) w') : opGrow P o a w K := by
  obtain ⟨i, hi, hzz⟩ := Option.map_eq_some_iff.1 hinfo
  simp only [Prod.mk.injEq] at hzz
  obtain ⟨hz, hs', hbb⟩ := hzz
  obtain ⟨v', w', hr, hown, hg⟩ := run_append_arg_grows (P := P) w t o.type e i z size bytes ht hi hz hs' hbb hzs hsz ⟨p, 0, none⟩ 0 0 [] (by simp) (by simp) ⟨b, 0, none⟩ 1 c l (by omega) (World.news_of_block hb) (by omega) (by simp [maxLen]) (by omega)
  obtain ⟨g, cap, rfl, _, _⟩ := World.ownsRow.form hown (by omega)
  have hB : Below w.heap.size w w' := ⟨hg.os, hg.tape, hg.output, hg.size, fun k hk => hg.block k hk (by simp)⟩
  exact grow_value (by simp [execOp, ho, resolve, invoke, builtin, Act.eval, hs, hx, hr, Result.andThen]) hB (h g cap w' (by simpa using hown) hB)

theorem ownsRow_cap' {w : World} {base : Nat} {e : TypeId} {size g cap : Nat} {n : Nat} {xs : List Value} (h : w.ownsRow base e size (.slice (some ⟨g, 0, none⟩) n cap) n xs) : n ≤ cap := by
  rcases h.2 with ⟨h0, _⟩ | ⟨g', cap', cur, h1, h2, h3, h4, _⟩
  · cases h0
  · simp only [Value.slice.injEq, Option.some.injEq, Addr.mk.injEq, and_true, true_and] at h1
    obtain ⟨rfl, rfl⟩ := h1
    exact h4

theorem run_wrapChk {P : Program} {w : World} (t : TypeId) (a : Addr) (s n : String) : (Builtin.ssaWrapNilChk_ #[t] t #[.pointer (some a), strVal s, strVal n]).run P w = .ok (.pointer (some a)) w := rfl

theorem meth_ptr {P : Program} {w : World} {t elem : TypeId} {name : String} {f n : Nat} {a : Addr} {v : Value} (hm : ((P.info? t).bind (fun i => i.methods.find? (·.name == name))).map (fun m => (m.path, m.func)) = some (#[], some (f, false)))
    (ht : P.underlying t = some (.pointer elem)) (h : (loadVar elem a).run P w = .ok v w) : (method (n + 1) t (.pointer (some a)) name).run P w = .ok (f, v) w := by
  obtain ⟨m, hb, hm2⟩ := Option.map_eq_some_iff.1 hm
  obtain ⟨i, hi, hf⟩ := Option.bind_eq_some_iff.1 hb
  simp only [Prod.mk.injEq] at hm2
  obtain ⟨h1, h2⟩ := hm2
  unfold method
  simp [typeInfo, hi, hf, h1, h2, follow, receiverAt, run_underlying ht, Place.get, run_wrapChk, asAddr, h, Result.andThen]

theorem meth_len {w : World} {q : Nat} {p : Option Addr} {n c : Nat} (hq : w.cell? ⟨q, 0, none⟩ = some (.slice p n c)) : (method 575 342 (.pointer (some ⟨q, 0, none⟩)) "Len").run Tryz.prog w = .ok (409, .slice p n c) w :=
  meth_ptr (P := Tryz.prog) (elem := 343) (n := 574) (by kernel_rfl) (by kernel_rfl) (by simp [loadVar, hq, go_sem])
theorem meth_swap {w : World} {q : Nat} {p : Option Addr} {n c : Nat} (hq : w.cell? ⟨q, 0, none⟩ = some (.slice p n c)) : (method 575 342 (.pointer (some ⟨q, 0, none⟩)) "Swap").run Tryz.prog w = .ok (413, .slice p n c) w :=
  meth_ptr (P := Tryz.prog) (elem := 343) (n := 574) (by kernel_rfl) (by kernel_rfl) (by simp [loadVar, hq, go_sem])

theorem ta_ints (v : Value) (w : World) : (Instr.typeAssert (.iface 31 v) 20 31 false).run Tryz.prog w = .ok v w := by kernel_rfl
attribute [local go_sem] ta_ints

def iq (q : Nat) : Value := .iface 342 (.pointer (some ⟨q, 0, none⟩))
set_option maxRecDepth 100000 in
set_option maxHeartbeats 1000000 in
theorem first_len (p : Option Addr) (n c : Nat) (w : World) : Calls Tryz.prog 409 #[.slice p n c] w fun e w' => e = .returned (.int .i64 n) ∧ w = w' := by
  go_enter Tryz.func409, Tryz.ntmps409
  go_wp2
  go_ret
  exact ⟨rfl, rfl⟩

set_option maxRecDepth 100000 in
set_option maxHeartbeats 1000000 in
theorem heap_up (q p c : Nat) (w : World) : Calls Tryz.prog 298 #[iq q, .int .i64 0] w fun e w' => e = .returned (.tuple #[]) ∧ w = w' := by
  go_enter Tryz.func298, Tryz.ntmps298
  (go_wp2; repeat (any_goals (first | (refine wp_loop_rounds 2 ?_; rw [rounds_succ]; go_wp2) | (rw [rounds_succ]; go_wp2))))
  go_end0
  exact ⟨rfl, rfl⟩

set_option maxRecDepth 100000 in
set_option maxHeartbeats 1000000 in
theorem heap_down (q : Nat) (w : World) : Calls Tryz.prog 299 #[iq q, .int .i64 0, .int .i64 0] w fun e w' => e = .returned (.bool false) ∧ w = w' := by
  go_enter Tryz.func299, Tryz.ntmps299
  (go_wp2; repeat (any_goals (first | (refine wp_loop_rounds 2 ?_; rw [rounds_succ]; go_wp2) | (rw [rounds_succ]; go_wp2))))
  go_ret
  exact ⟨rfl, rfl⟩

set_option maxRecDepth 100000 in
set_option maxHeartbeats 1000000 in
theorem first_push (q p c : Nat) (w : World) (hq : w.heap[q]? = some (.cells [.slice (some ⟨p, 0, none⟩) 0 0].toArray 343 (0, 0))) (x : Nat) (cx : Nat) :
    Calls Tryz.prog 412 #[.pointer (some ⟨q, 0, none⟩), .iface 31 (.slice (some ⟨x, 0, none⟩) 1 cx)] w fun e w' => e = .returned (.tuple #[]) ∧ Only (· = q) w w' ∧
      ∃ g cap, w'.heap[q]? = some (.cells [.slice (some ⟨g, 0, none⟩) 1 cap].toArray 343 (0, 0)) ∧ w'.ownsRow w.heap.size 31 1 (.slice (some ⟨g, 0, none⟩) 1 cap) 1 [.slice (some ⟨x, 0, none⟩) 1 cx] := by
  have lq := lt_of_block hq
  go_enter Tryz.func412, Tryz.ntmps412
  refine wp_region_facts [.val (.pointer (some ⟨q, 0, none⟩)), .val (.pointer (some ⟨q, 0, none⟩)), .val (.pointer (some ⟨q, 0, none⟩)), .val (.slice (some ⟨p, 0, none⟩) 0 0), .val (.iface 31 (.slice (some ⟨x, 0, none⟩) 1 cx)), .val (.slice (some ⟨x, 0, none⟩) 1 cx),
    .blk (sl 1) (.cells #[.slice (some ⟨x, 0, none⟩) 1 cx] 31 (0, 0)),
    .more (fun v w' => ∃ g cap, v = .slice (some ⟨g, 0, none⟩) 1 cap ∧ w'.ownsRow w.heap.size 31 1 (.slice (some ⟨g, 0, none⟩) 1 cap) 1 [.slice (some ⟨x, 0, none⟩) 1 cx]) (fun v w' w'' hb h => by obtain ⟨g, cap, h1, h3⟩ := h; exact ⟨g, cap, h1, ownsRow_below' h3 hb⟩)] (by kernel_rfl) (by kernel_rfl) ?_ ?_
  · simp only [stepsAll, List.take, List.length]
    refine ⟨?_, ?_, ?_, ?_, ?_, ?_, ?_, ?_, ?_⟩
    all_goals first | trivial | (intro a w1 hb hf hd)
    all_goals have hf0 : a.tmps[(0 : Nat)]?.getD undef = .pointer (some ⟨q, 0, none⟩) := (hf 0 (by decide +kernel)).trans rfl
    all_goals have hf1 : a.tmps[(1 : Nat)]?.getD undef = .iface 31 (.slice (some ⟨x, 0, none⟩) 1 cx) := (hf 1 (by decide +kernel)).trans rfl
    all_goals have wq := (hb.block _ lq).trans hq
    · exact grow_tmp _ rfl ⟨hf0, fun h => by cases h⟩
    · exact grow_tmp _ rfl ⟨hf0, fun h => by cases h⟩
    · have h0 : a.tmps[(5 : Nat)]?.getD undef = .pointer (some ⟨q, 0, none⟩) := hd 1 (by simp) (by kernel_rfl)
      exact grow_value (v := .pointer (some ⟨q, 0, none⟩)) (by simp [execOp, h0, go_sem]) (Below.refl _ _) ⟨rfl, fun h => by cases h⟩
    · have h0 : a.tmps[(6 : Nat)]?.getD undef = .pointer (some ⟨q, 0, none⟩) := hd 2 (by simp) (by kernel_rfl)
      have h1 := cell_l wq 0 rfl
      exact grow_value (v := .slice (some ⟨p, 0, none⟩) 0 0) (by simp [execOp, h0, h1, go_sem]) (Below.refl _ _) ⟨rfl, fun h => by cases h⟩
    · exact grow_tmp _ rfl ⟨hf1, fun h => by cases h⟩
    · have h0 : a.tmps[(8 : Nat)]?.getD undef = .iface 31 (.slice (some ⟨x, 0, none⟩) 1 cx) := hd 4 (by simp) (by kernel_rfl)
      exact grow_value (v := .slice (some ⟨x, 0, none⟩) 1 cx) (by simp [execOp, h0, go_sem]) (Below.refl _ _) ⟨rfl, fun h => by cases h⟩
    · have h0 : a.tmps[(9 : Nat)]?.getD undef = .slice (some ⟨x, 0, none⟩) 1 cx := hd 5 (by simp) (by kernel_rfl)
      exact grow_value (v := sl 1 w1.heap.size) (w' := w1.alloc (.cells #[.slice (some ⟨x, 0, none⟩) 1 cx] 31)) (by simp [execOp, h0, go_sem, sl]) ((Below.refl _ _).alloc (Nat.le_refl _) _) ⟨⟨_, rfl, heap_alloc_new _ _⟩, fun _ b hb => new_slice hb⟩
    · have h0 : a.tmps[(7 : Nat)]?.getD undef = .slice (some ⟨p, 0, none⟩) 0 0 := hd 3 (by simp) (by kernel_rfl)
      obtain ⟨b, h1, h2⟩ : ∃ b, a.tmps[(10 : Nat)]?.getD undef = sl 1 b ∧ w1.heap[b]? = some (.cells #[.slice (some ⟨x, 0, none⟩) 1 cx] 31 (0, 0)) := hd 6 (by simp) (by kernel_rfl)
      refine grow_append_zero 7 10 343 31 (.slice none 0 0) 1 24 rfl Tryz.underlying343 (by kernel_rfl) rfl (by omega) p b 1 [.slice (some ⟨x, 0, none⟩) 1 cx] h0 h1 h2 rfl (by omega) ?_
      intro g cap w' ho hb'
      exact ⟨⟨g, cap, rfl, ownsRow_lower ho hb.size⟩, fun h => by cases h⟩
  · intro f1 w1 hb hs _ _
    have g4 : f1 4 = .pointer (some ⟨q, 0, none⟩) := hs 0 (by simp)
    obtain ⟨g, cap, g11, hown⟩ : ∃ g cap, f1 11 = .slice (some ⟨g, 0, none⟩) 1 cap ∧ w1.ownsRow w.heap.size 31 1 (.slice (some ⟨g, 0, none⟩) 1 cap) 1 [.slice (some ⟨x, 0, none⟩) 1 cx] := hs 7 (by simp)
    clear hs
    rw [show (List.range (List.length _)).map (dstOf _) = [4, 5, 6, 7, 8, 9, 10, 11] from by kernel_rfl]
    simp only [actOf, List.foldl, Act.put, List.drop, List.length, g4, g11, List.setIfInBounds_toArray, List.set_cons_zero, List.set_cons_succ]
    have wq := (hb.block _ lq).trans hq
    have c0 := cell_l wq 0 rfl; have f0 := free_in wq 0
    have HK := Lib.hid (And.intro wq (And.intro hb hown))
    clear wq hb hown g4 g11 hq
    go_wp2
    go_end0
    obtain ⟨wq, hb, hown⟩ := HK.out
    exact ⟨rfl, (Only.of_below hb).setCell _ _ (.inl rfl), g, cap, block_set wq 0 _, ownsRow_other hown _ _ (by have := (ownsRow_lt hown).1; simp [Value.ownBlock]; omega)⟩

set_option maxRecDepth 100000 in
set_option maxHeartbeats 1000000 in
theorem heap_push (q p : Nat) (w : World) (hq : w.heap[q]? = some (.cells [.slice (some ⟨p, 0, none⟩) 0 0].toArray 343 (0, 0))) (x : Nat) (cx : Nat) :
    Calls Tryz.prog 211 #[iq q, .iface 31 (.slice (some ⟨x, 0, none⟩) 1 cx)] w fun e w' => e = .returned (.tuple #[]) ∧ Only (· = q) w w' ∧
      ∃ g cap, w'.heap[q]? = some (.cells [.slice (some ⟨g, 0, none⟩) 1 cap].toArray 343 (0, 0)) ∧ w'.ownsRow w.heap.size 31 1 (.slice (some ⟨g, 0, none⟩) 1 cap) 1 [.slice (some ⟨x, 0, none⟩) 1 cx] := by
  have HQ := Lib.hid hq
  clear hq
  unfold iq
  go_enter Tryz.func211, Tryz.ntmps211
  go_wp2_with fail
  refine (first_push q p 0 w HQ.out x cx).mono ?_
  rintro e w1 ⟨rfl, ho, g, cap, hq1, hown⟩
  have c0 := cell_l hq1 0 rfl
  have hm := meth_len c0
  have HO := Lib.hid (And.intro ho (And.intro hq1 hown))
  clear ho hq1 hown c0
  go_wp2_with (first
    | (go_at_call 409; refine (first_len _ _ _ _).mono ?_; rintro e w2 ⟨rfl, rfl⟩)
    | (go_at_call 298; refine (heap_up q p 0 _).mono ?_; rintro e w2 ⟨rfl, rfl⟩))
  go_end0
  obtain ⟨ho, hq1, hown⟩ := HO.out
  exact ⟨rfl, ho, g, cap, hq1, hown⟩

set_option maxRecDepth 100000 in
set_option maxHeartbeats 1000000 in
theorem first_swap (g cap x cx : Nat) (w : World) (hown : w.ownsRow 0 31 1 (.slice (some ⟨g, 0, none⟩) 1 cap) 1 [.slice (some ⟨x, 0, none⟩) 1 cx]) :
    Calls Tryz.prog 413 #[.slice (some ⟨g, 0, none⟩) 1 cap, .int .i64 0, .int .i64 0] w fun e w' => e = .returned (.tuple #[]) ∧ Only (· = g) w w' ∧ w'.ownsRow 0 31 1 (.slice (some ⟨g, 0, none⟩) 1 cap) 1 [.slice (some ⟨x, 0, none⟩) 1 cx] := by
  have c0 := ownsRow_cell1 hown
  have f0 : w.frozen? ⟨g, 0, none⟩ = false := by obtain ⟨_, _, cur, hcur⟩ := ownsRow_lt hown; exact free_in hcur 0
  have HO := Lib.hid hown
  clear hown
  go_enter Tryz.func413, Tryz.ntmps413
  go_region
  go_wp2
  go_end0
  refine ⟨rfl, (((Only.refl (· = g) w).setCell _ _ (.inl rfl)).setCell _ _ (.inl rfl)).drew, ?_⟩
  have h1 := ownsRow_setAt HO.out 0 (.slice (some ⟨x, 0, none⟩) 1 cx)
  have h2 := ownsRow_setAt h1 0 (.slice (some ⟨x, 0, none⟩) 1 cx)
  exact h2

set_option maxRecDepth 100000 in
set_option maxHeartbeats 1000000 in
theorem first_pop (q g cap x cx : Nat) (w : World) (hq : w.heap[q]? = some (.cells [.slice (some ⟨g, 0, none⟩) 1 cap].toArray 343 (0, 0))) (hown : w.ownsRow 0 31 1 (.slice (some ⟨g, 0, none⟩) 1 cap) 1 [.slice (some ⟨x, 0, none⟩) 1 cx]) :
    Calls Tryz.prog 411 #[.pointer (some ⟨q, 0, none⟩)] w fun e w' => e = .returned (.iface 31 (.slice (some ⟨x, 0, none⟩) 1 cx)) ∧ Only (· = q) w w' ∧
      w'.heap[q]? = some (.cells [.slice (some ⟨g, 0, none⟩) 0 cap].toArray 343 (0, 0)) := by
  have c0 := ownsRow_cell1 hown
  have cq := cell_l hq 0 rfl
  have fq := free_in hq 0
  have hcap := ownsRow_cap' hown
  have HO := Lib.hid (And.intro hq hown)
  clear hown hq
  go_enter Tryz.func411, Tryz.ntmps411
  go_wp2
  go_ret
  exact ⟨rfl, (Only.refl (· = q) w).setCell _ _ (.inl rfl), block_set HO.out.1 0 _⟩

set_option maxRecDepth 100000 in
set_option maxHeartbeats 1000000 in
theorem heap_pop (q g cap x cx : Nat) (w : World) (hq : w.heap[q]? = some (.cells [.slice (some ⟨g, 0, none⟩) 1 cap].toArray 343 (0, 0))) (hown : w.ownsRow 0 31 1 (.slice (some ⟨g, 0, none⟩) 1 cap) 1 [.slice (some ⟨x, 0, none⟩) 1 cx]) :
    Calls Tryz.prog 212 #[iq q] w fun e w' => e = .returned (.iface 31 (.slice (some ⟨x, 0, none⟩) 1 cx)) ∧ Only (fun b => b = q ∨ b = g) w w' ∧
      w'.heap[q]? = some (.cells [.slice (some ⟨g, 0, none⟩) 0 cap].toArray 343 (0, 0)) := by
  have cq := cell_l hq 0 rfl
  have HQ := Lib.hid (And.intro hq hown)
  have nqg : q ≠ g := by obtain ⟨_, _, cur, hcur⟩ := ownsRow_lt hown; exact block_ne hq hcur (by decide)
  have lq := lt_of_block hq
  clear hq hown
  unfold iq
  go_enter Tryz.func212, Tryz.ntmps212
  have hm1 := meth_len cq
  have hm2 := meth_swap cq
  go_wp2_with (first
    | (go_at_call 409; refine (first_len _ _ _ _).mono ?_; rintro e w2 ⟨rfl, rfl⟩)
    | (go_at_call 413; refine (first_swap g cap x cx _ HQ.out.2).mono ?_; rintro e w1 ⟨rfl, ho1, hown1⟩; have H1 := Lib.hid (And.intro ho1 hown1); clear ho1 hown1)
    | (go_at_call 299; refine (heap_down q _).mono ?_; rintro e w2 ⟨rfl, rfl⟩)
    | (go_at_call 411; refine (first_pop q g cap x cx _ (H1.out.1.kept HQ.out.1 nqg) H1.out.2).mono ?_; rintro e w3 ⟨rfl, ho3, hq3⟩; have H3 := Lib.hid (And.intro ho3 hq3); clear ho3 hq3))
  go_ret
  exact ⟨rfl, (H1.out.1.mono (fun b _ hb => .inr hb)).then H3.out.1 (fun b _ hb => .inl hb), H3.out.2⟩
end Go.Proofs.YtkbilipgidcgeaaGreatDoor
