/- graph: (*finder).close at node 0. graph: (*finder).find at node 0 without arcs. Small laws on rows. container/heap at one part. -/
import Derived.Test.YtacaejpamidkcaaGreatDoorR15
import Derived.Test.YtacaejpamidkcaaGreatDoorR14
set_option linter.unusedVariables false
set_option linter.unusedSimpArgs false
set_option maxRecDepth 100000
set_option maxHeartbeats 1000000
namespace Go.Proofs.YtacaejpamidkcaaGreatDoor
section
open Go.RowKit
attribute [local go_sem] ak_ af_ aq_ be_ bf_ bg_ a6_ a7_ a8_
theorem gclose (f b1 b2 b3 b4 g cap : Nat) (w : World)
 (hf : w.heap[f]? = some (.cells [sl 1 b1, sl 1 b2, sl 1 b3, .slice (some ⟨g, 0, none⟩) 1 cap, sl 1 b4, .slice none 0 0].toArray 403 (0, 0)))
 (h4 : w.heap[b4]? = some (.cells [.int .i64 0].toArray 3 (0, 0))) (hown : w.ownsRow 0 3 1 (.slice (some ⟨g, 0, none⟩) 1 cap) 1 [.int .i64 0]) (hc : 1 ≤ cap) :
 Calls Tryz.prog 360 #[pt f, .int .i64 0] w fun e w' => e = .returned (.tuple #[]) ∧ Only (fun b => b = f ∨ b = b4) w w' ∧
  w'.heap[b4]? = some (.cells [.int .i64 1].toArray 3 (0, 0)) ∧ ∃ g6 c6 g7 c7,
  w'.heap[f]? = some (.cells [sl 1 b1, sl 1 b2, sl 1 b3, .slice (some ⟨g, 0, none⟩) 0 cap, sl 1 b4, .slice (some ⟨g6, 0, none⟩) 1 c6].toArray 403 (0, 0)) ∧
  w'.ownsRow w.heap.size 38 1 (.slice (some ⟨g6, 0, none⟩) 1 c6) 1 [.slice (some ⟨g7, 0, none⟩) 1 c7] ∧ w'.ownsRow w.heap.size 3 1 (.slice (some ⟨g7, 0, none⟩) 1 c7) 1 [.int .i64 0] := by
 unfold sl pt at *
 have nf4 := am_ hf h4 (by decide)
 have lb4 := lt_of_block h4
 have c3 := ab_ hf 3 rfl
 have cg := bx_ hown
 have lg := (ah_ hown).2.1
 have HC := h1_ (show ∀ (j : Nat) (u : Value), ([.int .i64 0] : List Value)[j]? = some u → w.cell? ⟨g, j, none⟩ = some u from fun j u hj => by
  rcases j with _ | j
  · simp at hj; subst hj; exact cg
  · simp at hj)
 have HH := h4_ hf h4 hown nf4
 clear hf h4 hown nf4
 go_enter Tryz.func360, Tryz.ntmps360
 go_wp2
 refine wp_loop_rounds 1 ?_
 rw [rounds_succ]
 go_wp2_with (go_at_call 179; refine (rf_ g 1 cap [.int .i64 0] _ HC.out rfl (by simp [Value.oneCell']) (by omega) (by omega) lg).mono ?_; rintro e w1 ⟨hb1, g7, c7, rfl, hown1⟩; have H1 := h2_ hb1 hown1; have c3' := ab_ (at_b hb1 HH.out.1) 3 rfl; have f3' := ag_ (at_b hb1 HH.out.1) 3; clear hb1 hown1)
 refine (ev_ _ 1 _ _ (by omega)).mono ?_
 rintro e V ⟨rfl, hV⟩
 obtain ⟨hf, h4, hown, nf4⟩ := HH.out
 obtain ⟨hb1, hown1⟩ := H1.out
 have l7 := ah_ hown1
 have kf := at_b hb1 hf
 have k4 := at_b hb1 h4
 have hV' : Only (fun b => b = f ∨ b = b4) w V := by rw [← hV]; exact (Only.of_below hb1).setCell _ _ (.inl (.inl rfl))
 have vf : V.heap[f]? = some (.cells [.slice (some ⟨b1, 0, none⟩) 1 1, .slice (some ⟨b2, 0, none⟩) 1 1, .slice (some ⟨b3, 0, none⟩) 1 1, .slice (some ⟨g, 0, none⟩) 0 cap, .slice (some ⟨b4, 0, none⟩) 1 1, .slice none 0 0].toArray 403 (0, 0)) := by
  rw [← hV]; exact aj_ kf 3 _
 have v4 : V.heap[b4]? = some (.cells [.int .i64 0].toArray 3 (0, 0)) := by rw [← hV]; exact ay_ k4 _ _ (Ne.symm nf4)
 have vown : V.ownsRow w.heap.size 3 1 (.slice (some ⟨g7, 0, none⟩) 1 c7) 1 [.int .i64 0] := by
  rw [← hV]; exact b6_ hown1 _ _ (by obtain ⟨_, _, cur, hcur⟩ := l7; simpa [Value.ownBlock] using am_ hcur kf (by decide))
 have hsV : V.heap.size = w1.heap.size := by rw [← hV]; simp
 have d5 := ab_ vf 5 rfl
 have lf := lt_of_block vf
 have HV := h5_ hV' vf v4 vown hb1.size
 clear hf h4 hown nf4 hb1 hown1 l7 kf k4 hV' vf v4 vown hV H1 HH c3 cg lg HC c3' f3' hsV
 go_wp2_with (first
  | (go_at_call 242; refine (ev_ _ 1 _ _ (by omega)).mono ?_; rintro e w2 ⟨rfl, rfl⟩)
  | (at_builtin; refine d1_ rfl _ _ 297 38 (.slice none 0 0) 1 24 rfl Tryz.underlying297 (by kernel_rfl) rfl (by omega) V.heap.size 1 [.slice (some ⟨g7, 0, none⟩) 1 c7] rfl rfl (heap_alloc_new _ _) rfl (by simp [Value.oneCell']) (by omega) (V.heap.size + 1) (by simp) ?_; intro c6 w3 hown3 hb3; have H3 := h2_ hown3 hb3; have d5' := (hb3.cell (p := ⟨f, 5, none⟩) (show f < V.heap.size + 1 by omega)).trans ((World.cell?_alloc_past _ _ _ (show f < V.heap.size by omega)).trans d5); have fr5 := ag_ ((hb3.block f (by omega)).trans (ae_ HV.out.2.1)) 5; clear hown3 hb3))
 refine ac_ fun X hX => ?_
 obtain ⟨hV', vf, v4, vown, hsz⟩ := HV.out
 obtain ⟨hown3, hb3⟩ := H3.out
 have l7 := ah_ vown
 have wf := (hb3.block f (by omega)).trans (ae_ (o' := .cells #[.slice (some ⟨g7, 0, none⟩) 1 c7] 38) vf)
 have w4 := (hb3.block b4 (by have := lt_of_block v4; omega)).trans (ae_ (o' := .cells #[.slice (some ⟨g7, 0, none⟩) 1 c7] 38) v4)
 have wown : w3.ownsRow w.heap.size 3 1 (.slice (some ⟨g7, 0, none⟩) 1 c7) 1 [.int .i64 0] :=
  ai_ (ai_ vown ((Below.refl _ _).alloc (Nat.le_refl _) (.cells #[.slice (some ⟨g7, 0, none⟩) 1 c7] 38))) (by simpa using hb3)
 have xo : Only (fun b => b = f ∨ b = b4) w X := by
  rw [← hX]; exact ((hV'.alloc (.cells #[.slice (some ⟨g7, 0, none⟩) 1 c7] 38)).call (by simpa using hb3)).setCell _ _ (.inl (.inl rfl))
 have xf : X.heap[f]? = some (.cells [.slice (some ⟨b1, 0, none⟩) 1 1, .slice (some ⟨b2, 0, none⟩) 1 1, .slice (some ⟨b3, 0, none⟩) 1 1, .slice (some ⟨g, 0, none⟩) 0 cap, .slice (some ⟨b4, 0, none⟩) 1 1, .slice (some ⟨V.heap.size + 1, 0, none⟩) 1 c6].toArray 403 (0, 0)) := by
  rw [← hX]; exact aj_ wf 5 _
 have x4 : X.heap[b4]? = some (.cells [.int .i64 0].toArray 3 (0, 0)) := by rw [← hX]; exact ay_ w4 _ _ (am_ w4 wf (by decide))
 have xown : X.ownsRow w.heap.size 3 1 (.slice (some ⟨g7, 0, none⟩) 1 c7) 1 [.int .i64 0] := by
  rw [← hX]; exact b6_ wown _ _ (by obtain ⟨_, _, cur, hcur⟩ := ah_ wown; simpa [Value.ownBlock] using am_ hcur wf (by decide))
 have xown6 : X.ownsRow w.heap.size 38 1 (.slice (some ⟨V.heap.size + 1, 0, none⟩) 1 c6) 1 [.slice (some ⟨g7, 0, none⟩) 1 c7] := by
  rw [← hX]; exact b6_ (ap_ hown3 (by have := hV'.size; omega)) _ _ (by obtain ⟨_, _, cur, hcur⟩ := ah_ hown3; simpa [Value.ownBlock] using am_ hcur wf (by decide))
 have e4 := ab_ xf 4 rfl; have e5 := ab_ xf 5 rfl
 have m4 := ab_ x4 0 rfl; have fm4 := ag_ x4 0
 have e7 := bx_ xown
 have HX := h5_ xo xf x4 xown xown6
 clear xo xf x4 xown xown6 wf w4 wown l7 hV' vf v4 vown hown3 hb3 hX HV H3 d5 d5' fr5 lf hsz
 refine wp_loop_rounds 2 ?_
 rw [rounds_succ]
 go_wp2
 go_region
 go_wp2
 rw [rounds_succ]
 go_wp2
 go_end0
 obtain ⟨xo, xf, x4, xown, xown6⟩ := HX.out
 have nf4 := am_ xf x4 (by decide)
 refine ⟨rfl, (xo.setCell _ _ (.inl (.inr rfl))).drew, az_ (aj_ x4 0 _), V.heap.size + 1, c6, g7, c7, az_ (ay_ xf _ _ nf4), ?_, ?_⟩
 · exact b6_ xown6 _ _ (by obtain ⟨_, _, cur, hcur⟩ := ah_ xown6; simpa [Value.ownBlock] using am_ hcur x4 (by decide))
 · exact b6_ xown _ _ (by have := (ah_ xown).1; simp [Value.ownBlock]; omega)
end
section
open Go.RowKit
attribute [local go_sem] ak_ af_ aq_ be_ bf_ bg_ a6_ a7_ a8_
def wh_ (f b1 b2 b3 b4 c : Nat) (w : World) (e : Ending) (w' : World) : Prop :=
 e = .returned (.tuple #[]) ∧ Only (fun b => b = f ∨ b = b2 ∨ b = b3 ∨ b = b4 ∨ b = c) w w' ∧
  w'.heap[b4]? = some (.cells [.int .i64 1].toArray 3 (0, 0)) ∧ ∃ stk g6 c6 g7 c7,
  w'.heap[f]? = some (.cells [sl 1 b1, sl 1 b2, sl 1 b3, stk, sl 1 b4, .slice (some ⟨g6, 0, none⟩) 1 c6].toArray 403 (0, 0)) ∧
  w'.ownsRow w.heap.size 38 1 (.slice (some ⟨g6, 0, none⟩) 1 c6) 1 [.slice (some ⟨g7, 0, none⟩) 1 c7] ∧ w'.ownsRow w.heap.size 3 1 (.slice (some ⟨g7, 0, none⟩) 1 c7) 1 [.int .i64 0]
theorem ot_ {w : World} {base : Nat} {e : TypeId} {size g cap : Nat} {n : Nat} {xs : List Value} (h : w.ownsRow base e size (.slice (some ⟨g, 0, none⟩) n cap) n xs) : n ≤ cap := by
 rcases h.2 with ⟨h0, _⟩ | ⟨g', cap', cur, h1, h2, h3, h4, _⟩
 · cases h0
 · simp only [Value.slice.injEq, Option.some.injEq, Addr.mk.injEq, and_true, true_and] at h1
   obtain ⟨rfl, rfl⟩ := h1
   exact h4
theorem gfind (f b1 b2 b3 b4 c : Nat) (w : World) (n23 : b2 ≠ b3) (n24 : b2 ≠ b4) (n34 : b3 ≠ b4) (nc2 : c ≠ b2) (nc3 : c ≠ b3) (nc4 : c ≠ b4)
 (hf : w.heap[f]? = some (.cells [sl 1 b1, sl 1 b2, sl 1 b3, .slice none 0 0, sl 1 b4, .slice none 0 0].toArray 403 (0, 0)))
 (h1 : w.heap[b1]? = some (.cells [.slice none 0 0].toArray 38 (0, 0))) (h2 : w.heap[b2]? = some (.cells [.int .i64 0].toArray 3 (0, 0))) (h3 : w.heap[b3]? = some (.cells [.int .i64 0].toArray 3 (0, 0)))
 (h4 : w.heap[b4]? = some (.cells [.int .i64 0].toArray 3 (0, 0))) (hc : w.heap[c]? = some (.cells [.int .i64 0].toArray 3 (0, 0))) :
 Calls Tryz.prog 230 #[pt f, .int .i64 0, pt c] w (wh_ f b1 b2 b3 b4 c w) := by
 have HH := h6_ hf h1 h2 h3 h4 hc
 have HN := h6_ n23 n24 n34 nc2 nc3 nc4
 have l4 := lt_of_block h4; have l1 := lt_of_block h1; have lf := lt_of_block hf
 clear hf h1 h2 h3 h4 hc n23 n24 n34 nc2 nc3 nc4
 go_enter Tryz.func230, Tryz.ntmps230
 unfold pt
 go_wp2_with fail
 obtain ⟨n23, n24, n34, nc2, nc3, nc4⟩ := HN.out
 obtain ⟨hf, h1, h2, h3, h4, hc⟩ := HH.out
 refine (genter f b1 b2 b3 b4 c w.heap.size (w.heap.size + 1) _ n23 (ae_ (heap_alloc_new _ _)) (heap_alloc2_new w _ _) (ae_ (ae_ hf)) (ae_ (ae_ h2)) (ae_ (ae_ h3)) (ae_ (ae_ hc)) nc2 nc3).mono ?_
 rintro e w1 ⟨rfl, ho1, k2, k3, g, cap, kf, hg, hown⟩
 have k0 : w1.heap[w.heap.size]? = some (.cells [.pointer (some ⟨f, 0, none⟩)].toArray 498 (0, 0)) := ho1.kept (ae_ (heap_alloc_new _ _)) (by have := am_ (heap_alloc_new w (.cells #[pt f] 498)) (ae_ hc) (by decide); have := lt_of_block h2; have := lt_of_block h3; have := lt_of_block hc; omega)
 have k1 : w1.heap[b1]? = some (.cells [.slice none 0 0].toArray 38 (0, 0)) := ho1.kept (ae_ (ae_ h1)) (by have a1 := am_ h1 hf (by decide); have a2 := am_ h1 h2 (by decide); have a3 := am_ h1 h3 (by decide); have a4 := am_ h1 hc (by decide); omega)
 have k4 : w1.heap[b4]? = some (.cells [.int .i64 0].toArray 3 (0, 0)) := ho1.kept (ae_ (ae_ h4)) (by have a1 := am_ h4 hf (by decide); omega)
 have HA := h10_ hf ho1 k2 k3 kf hg hown k0 k1 k4
 clear hf h1 h2 h3 h4 hc n23 n24 n34 nc2 nc3 nc4 ho1 k2 k3 kf hg hown k0 k1 k4
 go_wp2_with fail
 refine ac_ fun W hW => ?_
 obtain ⟨hf0, ho1, k2, k3, kf, hg, hown, k0, k1, k4⟩ := HA.out
 have v2 : W.heap[b2]? = some (.cells [.int .i64 1].toArray 3 (0, 0)) := by rw [← hW]; exact ae_ k2
 have v3 : W.heap[b3]? = some (.cells [.int .i64 1].toArray 3 (0, 0)) := by rw [← hW]; exact ae_ k3
 have v4 : W.heap[b4]? = some (.cells [.int .i64 0].toArray 3 (0, 0)) := by rw [← hW]; exact ae_ k4
 have v1 : W.heap[b1]? = some (.cells [.slice none 0 0].toArray 38 (0, 0)) := by rw [← hW]; exact ae_ k1
 have v0 : W.heap[w.heap.size]? = some (.cells [.pointer (some ⟨f, 0, none⟩)].toArray 498 (0, 0)) := by rw [← hW]; exact ae_ k0
 have vf : W.heap[f]? = some (.cells [sl 1 b1, sl 1 b2, sl 1 b3, .slice (some ⟨g, 0, none⟩) 1 cap, sl 1 b4, .slice none 0 0].toArray 403 (0, 0)) := by rw [← hW]; exact ae_ kf
 have vc : W.heap[w1.heap.size]? = some (.cells [.int .i64 0, .int .i64 0].toArray 500 (0, 0)) := by rw [← hW]; exact heap_alloc_new _ _
 have vown : W.ownsRow w.heap.size 3 1 (.slice (some ⟨g, 0, none⟩) 1 cap) 1 [.int .i64 0] := by rw [← hW]; exact ap_ (ai_ hown ((Below.refl _ _).alloc (Nat.le_refl _) _)) (by simp; omega)
 have vo : Only (fun b => b = f ∨ b = b2 ∨ b = b3 ∨ b = b4 ∨ b = c) w W := by
  rw [← hW]; exact ((((Only.refl _ w).alloc (.cells #[pt f] 498)).alloc (.cells #[pt c] 215)).then ho1 (fun b _ hb => by omega)).alloc _
 have HW := h4_ vf v4 vown vo
 unfold sl at vf
 have y0 := ab_ v0 0 rfl; have y1 := ab_ vf 0 rfl; have y2 := ab_ vf 1 rfl; have y3 := ab_ vf 2 rfl; have z1 := ab_ v1 0 rfl; have z2 := ab_ v2 0 rfl; have z3 := ab_ v3 0 rfl
 have x0 := ab_ vc 0 rfl; have x1 := ab_ vc 1 rfl
 clear hf0 ho1 k2 k3 kf hg hown k0 k1 k4 v2 v3 v4 v1 v0 vf vc vown vo hW HA HH HN
 refine wp_loop_rounds 2 ?_
 rw [rounds_succ]
 go_wp2
 go_region
 go_wp2
 go_region
 go_wp2_with fail
 obtain ⟨vf, v4, vown, vo⟩ := HW.out
 refine (gclose f b1 b2 b3 b4 g cap _ (az_ (az_ vf)) (az_ (az_ v4)) (ap_ vown (Nat.zero_le _)) (ot_ vown)).mono ?_
 rintro e w2 ⟨rfl, ho2, m4, g6, c6, g7, c7, mf, mown6, mown7⟩
 have HM := h5_ (vo.drew.drew.then ho2 (fun b _ hb => by omega)) m4 mf (ap_ mown6 (base' := w.heap.size) vo.size) (ap_ mown7 (base' := w.heap.size) vo.size)
 clear vf v4 vown vo ho2 m4 mf mown6 mown7 HW y0 y1 y2 y3 z1 z2 z3 x0 x1
 go_wp2
 rw [rounds_succ]
 go_wp2
 go_end0
 obtain ⟨ho, m4, mf, mown6, mown7⟩ := HM.out
 exact ⟨rfl, ho, m4, _, g6, c6, g7, c7, mf, mown6, mown7⟩
end
section
open Go.RowKit
theorem b7_ {w : World} {base : Nat} {e : TypeId} {size g n cap : Nat} {xs : List Value} (h : w.ownsRow base e size (.slice (some ⟨g, 0, none⟩) n cap) n xs) (i : Nat) (u : Value) :
 (w.setCell ⟨g, i, none⟩ u).ownsRow base e size (.slice (some ⟨g, 0, none⟩) n cap) n (xs.set i u) := by
 refine ⟨by simpa using h.1, .inr ?_⟩
 rcases h.2 with ⟨h1, _⟩ | ⟨g', cap', cur, h1, h2, h3, h4, h5, h6, h7⟩
 · cases h1
 · cases h1
   refine ⟨g, cap, (cur.toList.set i u).toArray, rfl, h2, aj_ (l := cur.toList) (by simpa using h3) i u, h4, h5, by simpa using h6, ?_⟩
   rw [← h7]
   simp only [List.take_set]
theorem ao_ {S : Nat → Prop} {w w' : World} {base : Nat} {e : TypeId} {size g cap n : Nat} {xs : List Value} (h : w.ownsRow base e size (.slice (some ⟨g, 0, none⟩) n cap) n xs) (ho : Only S w w') (hs : ¬ S g) :
 w'.ownsRow base e size (.slice (some ⟨g, 0, none⟩) n cap) n xs := by
 refine ⟨h.1, ?_⟩
 rcases h.2 with ⟨h0, h1⟩ | ⟨g', cap', cur, h1, h2, h3, h4⟩
 · cases h0
 · have h1' := h1
   simp only [Value.slice.injEq, Option.some.injEq, Addr.mk.injEq, and_true, true_and] at h1
   obtain ⟨rfl, rfl⟩ := h1
   exact .inr ⟨g, cap, cur, rfl, h2, ho.kept h3 hs, h4⟩
end
section
open Go.RowKit
attribute [local go_sem] ak_ af_ aq_ be_ bf_ bg_ a6_ a7_ a8_
theorem io_ {P : Program} {o : Oper} {a : Act} {w : World} {K : Value → World → Prop} (s x : Tmp) (t e : TypeId) (z : Value) (size bytes : Nat)
 (ho : o.op = .call { callee := .builtin .append, args := #[.tmp s, .tmp x], argTypes := #[t, t] }) (ht : P.underlying t = some (.slice e)) (hinfo : (P.info? e).map (fun i => (i.zero, i.size, i.bytes)) = some (some z, size, bytes))
 (hzs : z.cells.size = size) (hsz : 0 < size) (p b c : Nat) (l : List Value) (hs : a.tmps[s]?.getD undef = .slice (some ⟨p, 0, none⟩) 0 0) (hx : a.tmps[x]?.getD undef = .slice (some ⟨b, 0, none⟩) 1 c)
 (hb : w.heap[b]? = some (.cells l.toArray e (0, 0))) (hl : l.length = size) (hby : bytes ≤ 140737488355328)
 (h : ∀ g cap w', w'.ownsRow w.heap.size e size (.slice (some ⟨g, 0, none⟩) 1 cap) 1 l → Below w.heap.size w w' → K (.slice (some ⟨g, 0, none⟩) 1 cap) w') : e7_ P o a w K := by
 obtain ⟨i, hi, hzz⟩ := Option.map_eq_some_iff.1 hinfo
 simp only [Prod.mk.injEq] at hzz
 obtain ⟨hz, hs', hbb⟩ := hzz
 obtain ⟨v', w', hr, hown, hg⟩ := run_append_arg_grows (P := P) w t o.type e i z size bytes ht hi hz hs' hbb hzs hsz ⟨p, 0, none⟩ 0 0 [] (by simp) (by simp) ⟨b, 0, none⟩ 1 c l (by omega) (World.news_of_block hb) (by omega) (by simp [maxLen]) (by omega)
 obtain ⟨g, cap, rfl, _, _⟩ := World.ownsRow.form hown (by omega)
 have hB : Below w.heap.size w w' := ⟨hg.os, hg.tape, hg.output, hg.size, fun k hk => hg.block k hk (by simp)⟩
 exact av_ (by simp [execOp, ho, resolve, invoke, builtin, Act.eval, hs, hx, hr, Result.andThen]) hB (h g cap w' (by simpa using hown) hB)
theorem mh_ {w : World} {base : Nat} {e : TypeId} {size g cap : Nat} {n : Nat} {xs : List Value} (h : w.ownsRow base e size (.slice (some ⟨g, 0, none⟩) n cap) n xs) : n ≤ cap := by
 rcases h.2 with ⟨h0, _⟩ | ⟨g', cap', cur, h1, h2, h3, h4, _⟩
 · cases h0
 · simp only [Value.slice.injEq, Option.some.injEq, Addr.mk.injEq, and_true, true_and] at h1
   obtain ⟨rfl, rfl⟩ := h1
   exact h4
theorem ou_ {P : Program} {w : World} (t : TypeId) (a : Addr) (s n : String) : (Builtin.ssaWrapNilChk_ #[t] t #[.pointer (some a), strVal s, strVal n]).run P w = .ok (.pointer (some a)) w := rfl
theorem p8_ {P : Program} {w : World} {t elem : TypeId} {name : String} {f n : Nat} {a : Addr} {v : Value} (hm : ((P.info? t).bind (fun i => i.methods.find? (·.name == name))).map (fun m => (m.path, m.func)) = some (#[], some (f, false)))
 (ht : P.underlying t = some (.pointer elem)) (h : (loadVar elem a).run P w = .ok v w) : (method (n + 1) t (.pointer (some a)) name).run P w = .ok (f, v) w := by
 obtain ⟨m, hb, hm2⟩ := Option.map_eq_some_iff.1 hm
 obtain ⟨i, hi, hf⟩ := Option.bind_eq_some_iff.1 hb
 simp only [Prod.mk.injEq] at hm2
 obtain ⟨h1, h2⟩ := hm2
 unfold method
 simp [typeInfo, hi, hf, h1, h2, follow, receiverAt, run_underlying ht, Place.get, ou_, asAddr, h, Result.andThen]
theorem hg_ {w : World} {q : Nat} {p : Option Addr} {n c : Nat} (hq : w.cell? ⟨q, 0, none⟩ = some (.slice p n c)) : (method (726) 405 (.pointer (some ⟨q, 0, none⟩)) "Len").run Tryz.prog w = .ok (489, .slice p n c) w :=
 p8_ (P := Tryz.prog) (elem := 406) (n := 725) (by kernel_rfl) (by kernel_rfl) (by simp [loadVar, hq, go_sem])
theorem tf_ {w : World} {q : Nat} {p : Option Addr} {n c : Nat} (hq : w.cell? ⟨q, 0, none⟩ = some (.slice p n c)) : (method (726) 405 (.pointer (some ⟨q, 0, none⟩)) "Swap").run Tryz.prog w = .ok (493, .slice p n c) w :=
 p8_ (P := Tryz.prog) (elem := 406) (n := 725) (by kernel_rfl) (by kernel_rfl) (by simp [loadVar, hq, go_sem])
theorem cb_ (v : Value) (w : World) : (Instr.typeAssert (.iface 38 v) 20 38 false).run Tryz.prog w = .ok v w := by kernel_rfl
attribute [local go_sem] cb_
def iq (q : Nat) : Value := .iface 405 (.pointer (some ⟨q, 0, none⟩))
theorem gk_ (p : Option Addr) (n c : Nat) (w : World) : Calls Tryz.prog 489 #[.slice p n c] w fun e w' => e = .returned (.int .i64 n) ∧ w = w' := by
 go_enter Tryz.func489, Tryz.ntmps489
 go_wp2
 go_ret
 exact ⟨rfl, rfl⟩
theorem heap_up (q p c : Nat) (w : World) : Calls Tryz.prog 361 #[iq q, .int .i64 0] w fun e w' => e = .returned (.tuple #[]) ∧ w = w' := by
 go_enter Tryz.func361, Tryz.ntmps361
 (go_wp2; repeat (any_goals (first | (refine wp_loop_rounds 2 ?_; rw [rounds_succ]; go_wp2) | (rw [rounds_succ]; go_wp2))))
 go_end0
 exact ⟨rfl, rfl⟩
theorem tg_ (q : Nat) (w : World) : Calls Tryz.prog 362 #[iq q, .int .i64 0, .int .i64 0] w fun e w' => e = .returned (.bool false) ∧ w = w' := by
 go_enter Tryz.func362, Tryz.ntmps362
 (go_wp2; repeat (any_goals (first | (refine wp_loop_rounds 2 ?_; rw [rounds_succ]; go_wp2) | (rw [rounds_succ]; go_wp2))))
 go_ret
 exact ⟨rfl, rfl⟩
theorem rg_ (q p c : Nat) (w : World) (hq : w.heap[q]? = some (.cells [.slice (some ⟨p, 0, none⟩) 0 0].toArray 406 (0, 0))) (x : Nat) (cx : Nat) :
 Calls Tryz.prog 492 #[.pointer (some ⟨q, 0, none⟩), .iface 38 (.slice (some ⟨x, 0, none⟩) 1 cx)] w fun e w' => e = .returned (.tuple #[]) ∧ Only (· = q) w w' ∧
  ∃ g cap, w'.heap[q]? = some (.cells [.slice (some ⟨g, 0, none⟩) 1 cap].toArray 406 (0, 0)) ∧ w'.ownsRow w.heap.size 38 1 (.slice (some ⟨g, 0, none⟩) 1 cap) 1 [.slice (some ⟨x, 0, none⟩) 1 cx] := by
 have lq := lt_of_block hq
 go_enter Tryz.func492, Tryz.ntmps492
 refine wr_ [.pt q 0, .pt q 0, .pt q 0, .val (.slice (some ⟨p, 0, none⟩) 0 0), .val (.iface 38 (.slice (some ⟨x, 0, none⟩) 1 cx)), .val (.slice (some ⟨x, 0, none⟩) 1 cx),
  .blk (sl 1) (.cells #[.slice (some ⟨x, 0, none⟩) 1 cx] 38 (0, 0)),
  .more (fun v w' => ∃ g cap, v = .slice (some ⟨g, 0, none⟩) 1 cap ∧ w'.ownsRow w.heap.size 38 1 (.slice (some ⟨g, 0, none⟩) 1 cap) 1 [.slice (some ⟨x, 0, none⟩) 1 cx]) (fun v w' w'' hb h => by obtain ⟨g, cap, h1, h3⟩ := h; exact ⟨g, cap, h1, ai_ h3 hb⟩)] (by kernel_rfl) (by kernel_rfl) ?_ ?_
 · simp only [ck_, List.take, List.length]
   refine ⟨?_, ?_, ?_, ?_, ?_, ?_, ?_, ?_, ?_⟩
   all_goals first | trivial | (intro a w1 hb hf hd)
   all_goals have hf0 : zp_ a 0 q 0 := (hf 0).trans rfl
   all_goals have hf1 : z_ a 1 (.iface 38 (.slice (some ⟨x, 0, none⟩) 1 cx)) := (hf 1).trans rfl
   all_goals have wq := (hb.block _ lq).trans hq
   · exact as_ _ rfl ⟨hf0, fun h => by cases h⟩
   · exact as_ _ rfl ⟨hf0, fun h => by cases h⟩
   · have h0 : z_ a 5 _ := hd 1
     exact gp_ (by simp [execOp, h0, go_sem])
   · have h0 : z_ a 6 _ := hd 2
     have h1 := ab_ wq 0 rfl
     exact gp_ (by simp [execOp, h0, h1, go_sem])
   · exact as_ _ rfl ⟨hf1, fun h => by cases h⟩
   · have h0 : z_ a 8 _ := hd 4
     exact gp_ (by simp [execOp, h0, go_sem])
   · have h0 : z_ a 9 _ := hd 5
     exact av_ (v := sl 1 w1.heap.size) (w' := w1.alloc (.cells #[.slice (some ⟨x, 0, none⟩) 1 cx] 38)) (by simp [execOp, h0, go_sem, sl]) ((Below.refl _ _).alloc (Nat.le_refl _) _) ⟨⟨_, rfl, heap_alloc_new _ _⟩, fun _ b hb => b2_ hb⟩
   · have h0 : z_ a 7 _ := hd 3
     obtain ⟨b, h1, h2⟩ : ∃ b, a.tmps[(10 : Nat)]?.getD undef = sl 1 b ∧ w1.heap[b]? = some (.cells #[.slice (some ⟨x, 0, none⟩) 1 cx] 38 (0, 0)) := hd 6
     refine io_ 7 10 406 38 (.slice none 0 0) 1 24 rfl Tryz.underlying406 (by kernel_rfl) rfl (by omega) p b 1 [.slice (some ⟨x, 0, none⟩) 1 cx] h0 h1 h2 rfl (by omega) ?_
     intro g cap w' ho hb'
     exact ⟨⟨g, cap, rfl, ap_ ho hb.size⟩, fun h => by cases h⟩
 · intro f1 w1 hb hs _ _
   have g4 : f1 4 = _ := hs 0 (by simp)
   obtain ⟨g, cap, g11, hown⟩ : ∃ g cap, f1 11 = .slice (some ⟨g, 0, none⟩) 1 cap ∧ w1.ownsRow w.heap.size 38 1 (.slice (some ⟨g, 0, none⟩) 1 cap) 1 [.slice (some ⟨x, 0, none⟩) 1 cx] := hs 7 (by simp)
   clear hs
   rw [show (List.range (List.length _)).map (a1_ _) = [4, 5, 6, 7, 8, 9, 10, 11] from by kernel_rfl]
   simp only [dw_, List.foldl, Act.put, List.drop, List.length, g4, g11, List.setIfInBounds_toArray, List.set_cons_zero, List.set_cons_succ]
   have wq := (hb.block _ lq).trans hq
   have c0 := ab_ wq 0 rfl; have f0 := ag_ wq 0
   have HK := h3_ wq hb hown
   clear wq hb hown g4 g11 hq
   go_wp2
   go_end0
   obtain ⟨wq, hb, hown⟩ := HK.out
   exact ⟨rfl, (Only.of_below hb).setCell _ _ (.inl rfl), g, cap, aj_ wq 0 _, b6_ hown _ _ (by have := (ah_ hown).1; simp [Value.ownBlock]; omega)⟩
theorem th_ (q p : Nat) (w : World) (hq : w.heap[q]? = some (.cells [.slice (some ⟨p, 0, none⟩) 0 0].toArray 406 (0, 0))) (x : Nat) (cx : Nat) :
 Calls Tryz.prog 231 #[iq q, .iface 38 (.slice (some ⟨x, 0, none⟩) 1 cx)] w fun e w' => e = .returned (.tuple #[]) ∧ Only (· = q) w w' ∧
  ∃ g cap, w'.heap[q]? = some (.cells [.slice (some ⟨g, 0, none⟩) 1 cap].toArray 406 (0, 0)) ∧ w'.ownsRow w.heap.size 38 1 (.slice (some ⟨g, 0, none⟩) 1 cap) 1 [.slice (some ⟨x, 0, none⟩) 1 cx] := by
 have HQ := h1_ hq
 clear hq
 unfold iq
 go_enter Tryz.func231, Tryz.ntmps231
 go_wp2_with fail
 refine (rg_ q p 0 w HQ.out x cx).mono ?_
 rintro e w1 ⟨rfl, ho, g, cap, hq1, hown⟩
 have c0 := ab_ hq1 0 rfl
 have hm := hg_ c0
 have HO := h3_ ho hq1 hown
 clear ho hq1 hown c0
 go_wp2_with (first
  | (go_at_call 489; refine (gk_ _ _ _ _).mono ?_; rintro e w2 ⟨rfl, rfl⟩)
  | (go_at_call 361; refine (heap_up q p 0 _).mono ?_; rintro e w2 ⟨rfl, rfl⟩))
 go_end0
 obtain ⟨ho, hq1, hown⟩ := HO.out
 exact ⟨rfl, ho, g, cap, hq1, hown⟩
theorem rh_ (g cap x cx : Nat) (w : World) (hown : w.ownsRow 0 38 1 (.slice (some ⟨g, 0, none⟩) 1 cap) 1 [.slice (some ⟨x, 0, none⟩) 1 cx]) :
 Calls Tryz.prog 493 #[.slice (some ⟨g, 0, none⟩) 1 cap, .int .i64 0, .int .i64 0] w fun e w' => e = .returned (.tuple #[]) ∧ Only (· = g) w w' ∧ w'.ownsRow 0 38 1 (.slice (some ⟨g, 0, none⟩) 1 cap) 1 [.slice (some ⟨x, 0, none⟩) 1 cx] := by
 have c0 := bx_ hown
 have f0 : w.frozen? ⟨g, 0, none⟩ = false := by obtain ⟨_, _, cur, hcur⟩ := ah_ hown; exact ag_ hcur 0
 have HO := h1_ hown
 clear hown
 go_enter Tryz.func493, Tryz.ntmps493
 go_region
 go_wp2
 go_end0
 refine ⟨rfl, (((Only.refl (· = g) w).setCell _ _ (.inl rfl)).setCell _ _ (.inl rfl)).drew, ?_⟩
 have h1 := b7_ HO.out 0 (.slice (some ⟨x, 0, none⟩) 1 cx)
 have h2 := b7_ h1 0 (.slice (some ⟨x, 0, none⟩) 1 cx)
 exact h2
theorem ti_ (q g cap x cx : Nat) (w : World) (hq : w.heap[q]? = some (.cells [.slice (some ⟨g, 0, none⟩) 1 cap].toArray 406 (0, 0))) (hown : w.ownsRow 0 38 1 (.slice (some ⟨g, 0, none⟩) 1 cap) 1 [.slice (some ⟨x, 0, none⟩) 1 cx]) :
 Calls Tryz.prog 491 #[.pointer (some ⟨q, 0, none⟩)] w fun e w' => e = .returned (.iface 38 (.slice (some ⟨x, 0, none⟩) 1 cx)) ∧ Only (· = q) w w' ∧
  w'.heap[q]? = some (.cells [.slice (some ⟨g, 0, none⟩) 0 cap].toArray 406 (0, 0)) := by
 have c0 := bx_ hown
 have cq := ab_ hq 0 rfl
 have fq := ag_ hq 0
 have hcap := mh_ hown
 have HO := h2_ hq hown
 clear hown hq
 go_enter Tryz.func491, Tryz.ntmps491
 go_wp2
 go_ret
 exact ⟨rfl, (Only.refl (· = q) w).setCell _ _ (.inl rfl), aj_ HO.out.1 0 _⟩
theorem wi_ (q g cap x cx : Nat) (w : World) (hq : w.heap[q]? = some (.cells [.slice (some ⟨g, 0, none⟩) 1 cap].toArray 406 (0, 0))) (hown : w.ownsRow 0 38 1 (.slice (some ⟨g, 0, none⟩) 1 cap) 1 [.slice (some ⟨x, 0, none⟩) 1 cx]) :
 Calls Tryz.prog 232 #[iq q] w fun e w' => e = .returned (.iface 38 (.slice (some ⟨x, 0, none⟩) 1 cx)) ∧ Only (fun b => b = q ∨ b = g) w w' ∧
  w'.heap[q]? = some (.cells [.slice (some ⟨g, 0, none⟩) 0 cap].toArray 406 (0, 0)) := by
 have cq := ab_ hq 0 rfl
 have HQ := h2_ hq hown
 have nqg : q ≠ g := by obtain ⟨_, _, cur, hcur⟩ := ah_ hown; exact am_ hq hcur (by decide)
 have lq := lt_of_block hq
 clear hq hown
 unfold iq
 go_enter Tryz.func232, Tryz.ntmps232
 have hm1 := hg_ cq
 have hm2 := tf_ cq
 go_wp2_with (first
  | (go_at_call 489; refine (gk_ _ _ _ _).mono ?_; rintro e w2 ⟨rfl, rfl⟩)
  | (go_at_call 493; refine (rh_ g cap x cx _ HQ.out.2).mono ?_; rintro e w1 ⟨rfl, ho1, hown1⟩; have H1 := h2_ ho1 hown1; clear ho1 hown1)
  | (go_at_call 362; refine (tg_ q _).mono ?_; rintro e w2 ⟨rfl, rfl⟩)
  | (go_at_call 491; refine (ti_ q g cap x cx _ (H1.out.1.kept HQ.out.1 nqg) H1.out.2).mono ?_; rintro e w3 ⟨rfl, ho3, hq3⟩; have H3 := h2_ ho3 hq3; clear ho3 hq3))
 go_ret
 exact ⟨rfl, (H1.out.1.mono (fun b _ hb => .inr hb)).then H3.out.1 (fun b _ hb => .inl hb), H3.out.2⟩
end
end Go.Proofs.YtacaejpamidkcaaGreatDoor
