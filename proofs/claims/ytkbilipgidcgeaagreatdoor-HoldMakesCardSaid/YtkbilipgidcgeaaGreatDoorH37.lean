/- hold: words, skip = old. -/
import Derived.Test.YtkbilipgidcgeaaGreatDoorH33
set_option linter.unusedVariables false
set_option linter.unusedSimpArgs false
namespace Go.Proofs.YtkbilipgidcgeaaGreatDoor.Tiny
open Go.RowKit Go.ChangeMaps
attribute [local go_sem] ext_cell ext_frozen
attribute [local irreducible] labCells modC threadC

set_option maxRecDepth 100000 in
set_option maxHeartbeats 2000000 in
theorem word_old (B : ByteArray) (n : PN) (sv : Value) (g cap q0 q1 q2 b nn k : Nat) (l : List Str) (ps : List Part) (x : VN) (a : Int) (s : ByteArray) (S : Int → Prop) (w : World) (hV : ViewAt B w x n.p l ps) (hC : Ctx B w n sv g cap l ps) (hS : SetAt w b nn S)
    (h0 : w.cell? ⟨q0, 0, none⟩ = some (.pointer (some ⟨x.v, 0, none⟩))) (h1 : w.cell? ⟨q1, 0, none⟩ = some (.func (.func 180) #[.pointer (some ⟨x.v, 0, none⟩)] #[])) (h2 : w.cell? ⟨q2, 0, none⟩ = some (.map (some b))) (l0 : q0 < w.heap.size) (l1 : q1 < w.heap.size) (l2 : q2 < w.heap.size)
    (hk : LastAt ps a k) (hin : a - (ps[k]'hk.lt).at_ + 8 ≤ (ps[k]'hk.lt).size) (hm : a.tmod 8 = 0) (hfar : ∀ s ∈ l, Far s a) (hl : l.length ≤ 1000) (hb : a ≤ 1000000) (hmax : nn < 900000) :
    Calls Tryz.prog 268 #[.int .i64 a, .string s, .pointer (some ⟨q0, 0, none⟩), .pointer (some ⟨q1, 0, none⟩), .pointer (some ⟨q2, 0, none⟩)] w fun e w' => e = .returned (.tuple #[]) ∧ SetAt w' b (nn + 1) (fun z => z = sgn64 (leN (readL (ps[k]'hk.lt) a 8)) ∨ S z) ∧ Only (· = b) w w' := by
  have HH := Lib.hid (And.intro hV (And.intro hC (And.intro hS (And.intro hin hm))))
  have c0 := cell_l hV.head 0 rfl
  clear hV hC hS hin hm
  go_enter Tryz.func268, Tryz.ntmps268
  go_wp2_with fail
  go_at_call 9
  refine (hspace n.p n.s n.b n.l _ sv _ HH.out.2.1.head).mono ?_
  rintro e w1 ⟨rfl, rfl⟩
  go_wp2_with fail
  go_at_call 10
  refine (load_word n.s g cap ps a w1 HH.out.2.1.ok HH.out.2.1.space k hk _ rfl HH.out.2.2.2.1 HH.out.2.2.2.2).mono ?_
  rintro e w2 ⟨hb2, rfl⟩
  have d1 := (hb2.cell (p := ⟨q1, 0, none⟩) l1).trans h1
  have d2 := (hb2.cell (p := ⟨q2, 0, none⟩) l2).trans h2
  obtain ⟨v, hv⟩ : ∃ v, v = sgn64 (leN (readL (ps[k]'hk.lt) a 8)) := ⟨_, rfl⟩
  rw [← hv]
  have hvr : -9223372036854775808 ≤ v ∧ v ≤ 9223372036854775807 := by rw [hv]; exact sgn64_range _
  have l2' := hb2.size
  have H2 := Lib.hid (And.intro hb2 (And.intro hv (And.intro hvr (And.intro (HH.out.2.2.1.below hb2) (HH.out.1.below hb2)))))
  clear hb2 hv hvr c0 h0 h1 h2
  go_wp2_with fail
  go_at_call 180
  refine (old_far B x n.p l ps a w2 H2.out.2.2.2.2 hfar hl hb).mono ?_
  rintro e w3 ⟨rfl, hb3⟩
  have H3 := Lib.hid (And.intro hb3 (H2.out.2.2.2.1.below hb3))
  have e2 := (hb3.cell (p := ⟨q2, 0, none⟩) (show q2 < w2.heap.size by omega)).trans d2
  have l3 := hb3.size
  clear hb3 d1 d2
  go_wp2_with fail
  go_at_call 93
  refine (set_add b nn w3.heap.size 0 1 S [v] _ (H3.out.2.below ((Below.refl _ _).alloc (Nat.le_refl _) _)) (fun j hj => by
    obtain rfl : j = 0 := by simpa using hj
    exact cell_l (heap_alloc_new w3 (.cells [.int .i64 v].toArray 3)) 0 rfl) (fun z hz => by rw [List.mem_singleton] at hz; rw [hz]; exact wf_int H2.out.2.2.1) (by have := H3.out.2.lt; omega) (by simp) (by simp; omega)).mono ?_
  rintro e w4 ⟨rfl, hs4, ho4⟩
  have H4 := Lib.hid (And.intro hs4 ho4)
  clear hs4 ho4 e2
  go_wp2
  go_end0
  refine ⟨rfl, H4.out.1.same (fun z => ?_), (Only.of_below (H2.out.1.trans (H3.out.1.mono l2'))).trans ((Only.of_below ((Below.refl _ _).alloc (Nat.le_refl _) _)).trans H4.out.2)⟩
  rw [← H2.out.2.1]
  simp

set_option maxRecDepth 100000 in
set_option maxHeartbeats 2000000 in
theorem words_old (B : ByteArray) (n : PN) (sv : Value) (g cap b nn : Nat) (l : List Str) (ps : List Part) (x : VN) (ad m : Int) (S : Int → Prop) (w : World) (hV : ViewAt B w x n.p l ps) (hC : Ctx B w n sv g cap l ps) (hS : SetAt w b nn S)
    (h0 : 0 ≤ ad) (h8 : ad % 8 = 0) (h2 : 0 < m) (h3 : ad + m ≤ 1000000) (hps : ∀ p ∈ ps, p.at_ + p.size ≤ 1000000) (hfew : ps.length ≤ 1000) (hfar : ∀ e ∈ hitsL ps ad m, ∀ s ∈ l, Far s e.1) (hl : l.length ≤ 1000) (hmax : nn + (hitsL ps ad m).length < 900000) :
    Calls Tryz.prog 179 #[.pointer (some ⟨x.v, 0, none⟩), .map (some b), .agg #[.int .i64 ad, .int .i64 m], .func (.func 180) #[.pointer (some ⟨x.v, 0, none⟩)] #[]] w fun e w' => e = .returned (.tuple #[]) ∧ SetAt w' b (nn + (hitsL ps ad m).length) (fun z => (∃ e ∈ hitsL ps ad m, z = hitW e) ∨ S z) ∧ Only (· = b) w w' := by
  have HH := Lib.hid (And.intro hV (And.intro hC hS))
  have hbl := hS.lt
  clear hV hC hS
  go_enter Tryz.func179, Tryz.ntmps179
  go_upto_region 1 with fail
  refine name_world fun W hW => ?_
  have wB : Below w.heap.size w W := by rw [← hW]; go_grown
  have c0 : W.cell? ⟨w.heap.size, 0, none⟩ = some (.pointer (some ⟨x.v, 0, none⟩)) := by rw [← hW]; exact cell_in (block_old (block_old (block_old (heap_alloc_new w _)))) 0 rfl
  have c1 : W.cell? ⟨w.heap.size + 1, 0, none⟩ = some (.map (some b)) := by rw [← hW]; exact cell_in (block_old (block_old (heap_alloc2_new w _ _))) 0 rfl
  have c3 : W.cell? ⟨w.heap.size + 3, 0, none⟩ = some (.func (.func 180) #[.pointer (some ⟨x.v, 0, none⟩)] #[]) := by rw [← hW]; exact cell_in (block_at (by simp)) 0 rfl
  have ks : W.heap[w.heap.size + 1 + 1]? = some (.cells [.int .i64 ad, .int .i64 m].toArray 49 (0, 0)) := by rw [← hW]; exact block_old (block_at (o := .cells #[.int .i64 ad, .int .i64 m] 49) (by simp))
  have lW : W.heap.size = w.heap.size + 4 := by rw [← hW]; simp
  have HW := Lib.hid (And.intro wB (And.intro c0 (And.intro c1 c3)))
  clear hW wB c1 c3
  go_wp2_with (refine wpList_load_row rfl 49 (.tmp 6) rfl (w.heap.size + 1 + 1) rfl 49 [.int .i64 ad, .int .i64 m].toArray (0, 0) _ ks Tryz.underlying49 rfl (by kernel_rfl) ?_)
  go_at_call 90
  refine (each_words B n sv g cap w.heap.size (w.heap.size + 1 + 1 + 1) (w.heap.size + 1) l ps x ad m (fun k W' => ViewAt B W' x n.p l ps ∧ Ctx B W' n sv g cap l ps ∧ SetAt W' b (nn + k) (fun z => (∃ j, ∃ h : j < (hitsL ps ad m).length, j < k ∧ z = hitW ((hitsL ps ad m)[j])) ∨ S z) ∧
      (W'.cell? ⟨w.heap.size, 0, none⟩ = some (.pointer (some ⟨x.v, 0, none⟩)) ∧ W'.cell? ⟨w.heap.size + 1, 0, none⟩ = some (.map (some b)) ∧ W'.cell? ⟨w.heap.size + 1 + 1 + 1, 0, none⟩ = some (.func (.func 180) #[.pointer (some ⟨x.v, 0, none⟩)] #[])) ∧ w.heap.size + 4 ≤ W'.heap.size ∧ Only (· = b) w W') W h0 h8 h2 h3 hps hfew (fun k W' h => ⟨h.1, h.2.1⟩) ?_ ?_ ?_).mono ?_
  · intro k W' W'' h hb
    refine ⟨h.1.below hb, h.2.1.below hb, h.2.2.1.below hb, ⟨(hb.cell (p := ⟨w.heap.size, 0, none⟩) (show w.heap.size < W'.heap.size from by have := h.2.2.2.2.1; omega)).trans h.2.2.2.1.1, (hb.cell (p := ⟨w.heap.size + 1, 0, none⟩) (show w.heap.size + 1 < W'.heap.size from by have := h.2.2.2.2.1; omega)).trans h.2.2.2.1.2.1, (hb.cell (p := ⟨w.heap.size + 1 + 1 + 1, 0, none⟩) (show w.heap.size + 1 + 1 + 1 < W'.heap.size from by have := h.2.2.2.2.1; omega)).trans h.2.2.2.1.2.2⟩, Nat.le_trans h.2.2.2.2.1 hb.size, h.2.2.2.2.2.trans (Only.of_below hb)⟩
  · obtain ⟨wB, d0, d1, d3⟩ := HW.out
    exact ⟨HH.out.1.below wB, HH.out.2.1.below wB, (HH.out.2.2.below wB).same (fun z => by simp), ⟨d0, d1, d3⟩, Nat.le_of_eq lW.symm, Only.of_below wB⟩
  · intro k hk W' h
    obtain ⟨hV', hC', hS', ⟨d0, d1, d3⟩, hl', ho'⟩ := h
    obtain ⟨k', hk', f1, f2, f3, f4, f5⟩ := hit_facts hC'.ok h0 h8 (List.getElem_mem hk)
    refine (word_old B n sv g cap w.heap.size (w.heap.size + 1 + 1 + 1) (w.heap.size + 1) b (nn + k) k' l ps x _ _ _ W' hV' hC' hS' d0 d3 d1 (by omega) (by omega) (by omega) hk' f1 f2 (hfar _ (List.getElem_mem hk)) hl (by omega) (by omega)).mono ?_
    rintro e w' ⟨he, hs1, ho1⟩
    have hM : MapB W' b := SetAt.mapB hS'
    refine ⟨he, ⟨hV'.set hM ho1, hC'.set hM ho1, hs1.same (fun z => ?_), ⟨(ho1.cell (by omega) (by omega)).trans d0, (ho1.cell (by omega) (by omega)).trans d1, (ho1.cell (by omega) (by omega)).trans d3⟩, Nat.le_trans hl' ho1.size, ho'.trans ho1⟩, keeps_only hM ho1⟩
    have hv : hitW ((hitsL ps ad m)[k]) = sgn64 (leN (readL (ps[k']'hk'.lt) ((hitsL ps ad m)[k]).1 8)) := by unfold hitW; rw [f3]
    rw [← hv]
    constructor
    · rintro (hz | ⟨j, hj, hjk, hz⟩ | hz)
      · exact .inl ⟨k, hk, by omega, hz⟩
      · exact .inl ⟨j, hj, by omega, hz⟩
      · exact .inr hz
    · rintro (⟨j, hj, hjk, hz⟩ | hz)
      · by_cases e : j = k
        · subst e; exact .inl hz
        · exact .inr (.inl ⟨j, hj, by omega, hz⟩)
      · exact .inr (.inr hz)
  rintro e w2 ⟨rfl, -, -, hs2, -, -, ho2⟩
  have H2 := Lib.hid (And.intro hs2 ho2)
  clear hs2 ho2
  go_wp2
  go_end0
  refine ⟨rfl, H2.out.1.same (fun z => ?_), H2.out.2⟩
  constructor
  · rintro (⟨j, hj, -, hz⟩ | hz)
    · exact .inl ⟨_, List.getElem_mem hj, hz⟩
    · exact .inr hz
  · rintro (⟨e, he, hz⟩ | hz)
    · obtain ⟨j, hj, rfl⟩ := List.getElem_of_mem he
      exact .inl ⟨j, hj, hj, hz⟩
    · exact .inr hz
end Go.Proofs.YtkbilipgidcgeaaGreatDoor.Tiny
