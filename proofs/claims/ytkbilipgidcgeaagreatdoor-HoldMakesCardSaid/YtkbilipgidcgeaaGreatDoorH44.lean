/- The example 'tiny': Held and Code at it; Alike and Same. linchpinlaw38.small. HoldMakes: what is wanted, and what is got. linchpinlaw38.has. -/
import Derived.Test.YtkbilipgidcgeaaGreatDoorH42
import Derived.Test.YtkbilipgidcgeaaGreatDoorH43
import Derived.Test.YtkbilipgidcgeaaGreatDoorH40
set_option linter.unusedVariables false
set_option linter.unusedSimpArgs false
namespace Go.Proofs.YtkbilipgidcgeaaGreatDoor.Tiny
open Go.RowKit Go.ChangeMaps Go.Maps
attribute [local go_sem] ext_cell ext_frozen
attribute [local irreducible] labCells modC threadC

theorem tiny_held0 (h0 : Nat) (B : ByteArray) (L : List UInt8) (n : PN) (sv : Value) (X : Int) (w : World) (h : TinyAt h0 B L w n sv [] X) (hf : Forms w) :
    Calls Tryz.prog 38 #[.pointer (some ⟨n.p, 0, none⟩)] w fun e w' => Below w.heap.size w w' ∧ ∃ gs gm, w.heap.size ≤ gs ∧ w.heap.size ≤ gm ∧ e = .returned (.tuple #[.slice (some ⟨gs, 0, none⟩) 0 0, .slice (some ⟨gm, 0, none⟩) 1 1]) ∧
      w'.heap[gm]? = some (.cells (([false] : List Bool).map Value.bool).toArray 4 (0, 0)) := by
  refine (held_any B n sv n.g n.cap [] (tinyP L n.b1 n.b2 n.b3 X) w h.ctx hf (by simp [tinyP]) (fun s hs => by simp at hs) (fun p hp => (tiny_hps p hp).1) (fun p hp => (tiny_hps p hp).2) (by simp [tinyP]) (by simp) (fun _ _ s hs => by simp at hs) (fun _ _ s hs => by simp at hs) (fun _ => false) (fun i hi => by simp at hi) (fun i hi => by simp at hi) (fun _ _ => false) (fun _ => []) (fun i hi => by simp at hi)).mono ?_
  rintro e w' ⟨hb, gs, gm, j, h1, h2, rfl, _, _, h5⟩
  exact ⟨hb, gs, gm, h1, h2, rfl, h5⟩

theorem tiny_held (h0 : Nat) (B : ByteArray) (n : PN) (sv : Value) (X : Int) (w : World) (h : TinyAt h0 B tinyL w n sv strL X) (hf : Forms w) (h1 : -9223372036854775808 ≤ X) (h2 : X ≤ 9223372036854775807) :
    Calls Tryz.prog 38 #[.pointer (some ⟨n.p, 0, none⟩)] w fun e w' => Below w.heap.size w w' ∧ ∃ gs gm, w.heap.size ≤ gs ∧ w.heap.size ≤ gm ∧ e = .returned (.tuple #[.slice (some ⟨gs, 0, none⟩) 2 2, .slice (some ⟨gm, 0, none⟩) 1 1]) ∧
      w'.heap[gs]? = some (.cells ((rX X).map Value.bool).toArray 4 (0, 0)) := by
  have hstr : ∀ s ∈ strL, s.mod = 0 ∧ 0 ≤ s.at_ ∧ 0 < s.size ∧ s.at_ + s.size ≤ 768 := by
    intro s hs
    simp only [strL, List.mem_cons, List.not_mem_nil, or_false] at hs
    rcases hs with rfl | rfl <;> decide
  have hat : ∀ i (hi : i < strL.length), strL[i] ∈ strL := fun i hi => List.getElem_mem hi
  refine (held_any B n sv n.g n.cap strL (tinyP tinyL n.b1 n.b2 n.b3 X) w h.ctx hf (by simp [tinyP]) (fun s hs => (hstr s hs).1) (fun p hp => (tiny_hps p hp).1) (fun p hp => (tiny_hps p hp).2) (by simp [tinyP]) (by decide)
    (fun e he s hs => by have := hits_ge he; obtain ⟨_, a, b, c⟩ := hstr s hs; exact ⟨a, b, by omega⟩) (fun e he s hs => by have := hits_ge he; obtain ⟨_, a, b, c⟩ := hstr s hs; exact ⟨a, b, by omega⟩)
    (mX X) (fun i hi => by obtain ⟨_, a, b, c⟩ := hstr _ (hat i hi); exact ⟨a, by omega, by omega, by omega⟩) (met_tiny tinyL n.b1 n.b2 n.b3 X h1 h2) oS JS (own_tiny n.b1 n.b2 n.b3 X)).mono ?_
  rintro e w' ⟨hb, gs, gm, j, h1, h2, rfl, h3, h4, h5⟩
  rw [show (iterH oS strL.length j (markS (mX X) (List.range strL.length) (List.replicate strL.length false, []))).1 = rX X from iter_tiny X j h3] at h4
  exact ⟨hb, gs, gm, h1, h2, rfl, h4⟩

theorem tiny_code (h0 : Nat) (B : ByteArray) (n : PN) (sv : Value) (l : List Str) (X : Int) (w : World) (h : TinyAt h0 B tinyL w n sv l X) (hf : Forms w) :
    Calls Tryz.prog 16 #[.pointer (some ⟨n.p, 0, none⟩), .agg #[.int .i64 576, .int .i64 16]] w fun e w' => Below w.heap.size w w' ∧ ∃ g c, e = .returned (.slice (some ⟨g, 0, none⟩) 1 c) ∧ w'.cell? ⟨g, 0, none⟩ = some (.int .i64 608) := by
  refine (hCode B n sv n.g n.cap l (tinyP tinyL n.b1 n.b2 n.b3 X) 576 16 [callI, retI] w h.ctx hf (by simp [tinyP]) (by decide) (by decide) (by decide) (by decide) (fun p hp => (tiny_hps p hp).1) (by simp [tinyP]) (by rw [hits0]; rfl) (dec_of (hits0 _ _ _ _) dec0) (by decide)).mono ?_
  rintro e w' ⟨v, ss, rfl, hnd, hm, hown, hnil, hb⟩
  rw [hits0] at hm
  have hm' : ∀ z, z ∈ ss ↔ z = 608 := fun z => by
    rw [hm z]
    exact ⟨fun h => h.elim (made0 z).1 (fun h => absurd h (no_comb0 z)), fun h => .inl ((made0 z).2 h)⟩
  have hss : ss = [608] := by
    match ss, hnd, hm' with
    | [], _, hm' => exact absurd ((hm' 608).2 rfl) (by simp)
    | [a], _, hm' => rw [(hm' a).1 (by simp)]
    | a :: b :: r, hnd, hm' =>
      have e1 := (hm' a).1 (by simp)
      have e2 := (hm' b).1 (by simp)
      rw [e1, e2] at hnd
      simp at hnd
  subst hss
  refine ⟨hb, ?_⟩
  obtain ⟨g, c, rfl⟩ := row_some hown (by decide)
  exact ⟨g, c, rfl, (row_cell hown 0 rfl).1⟩

theorem below_draws (w : World) (n : Nat) : Below w.heap.size w (w.drewN n) := ⟨rfl, rfl, rfl, Nat.le_refl _, fun _ _ => rfl⟩
/-- Two lists of truth values that are equal. -/
theorem alike_ok (g1 g2 n c1 c2 : Nat) (r : List Bool) (w : World) (hr : r.length ≤ 1000) (hn : n = r.length) (h1 : w.heap[g1]? = some (.cells (r.map Value.bool).toArray 4 (0, 0))) (h2 : w.heap[g2]? = some (.cells (r.map Value.bool).toArray 4 (0, 0))) :
    Calls Tryz.prog 41 #[.slice (some ⟨g1, 0, none⟩) n c1, .slice (some ⟨g2, 0, none⟩) n c2] w fun e w' => e = .returned (.bool true) ∧ Below w.heap.size w w' := by
  subst hn
  have H := Lib.hid (And.intro h1 h2)
  clear h1 h2
  go_enter Tryz.func41, Tryz.ntmps41
  go_wp2_with fail
  go_loopw [5] (fun i wr => ∃ k : Nat, k ≤ r.length ∧ i = .int .i64 k ∧ Below w.heap.size w wr) (fun i _ => r.length - (vI i).toNat)
  case atStart => exact ⟨0, Nat.zero_le _, rfl, Below.refl _ _⟩
  case round =>
    obtain ⟨k, hk, rfl, hb⟩ := hrel
    by_cases hlt : k < r.length
    · have c1 := (hb.cell (p := ⟨g1, k, none⟩) (lt_of_block H.out.1)).trans (bool_cell H.out.1 k hlt)
      have c2 := (hb.cell (p := ⟨g2, k, none⟩) (lt_of_block H.out.2)).trans (bool_cell H.out.2 k hlt)
      have HB := Lib.hid hb
      clear hb
      obtain ⟨b, hb⟩ : ∃ b, b = r[k]?.getD true := ⟨_, rfl⟩
      rw [← hb] at c1 c2
      clear hb
      have k0 : (0 : Int) ≤ (k : Int) := by omega
      have hlt' : (k : Int) < (r.length : Int) := by omega
      go_wp2
      go_quiet (fail)
      go_wp2
      all_goals first | (exfalso; simp_all; done) | skip
      go_roundw
      case rel => exact ⟨k + 1, by omega, by go_num, HB.out.trans ((below_draws _ _).mono HB.out.size)⟩
      case measure => simp [vI]; omega
    · obtain rfl : k = r.length := by omega
      have HB := Lib.hid hb
      clear hb
      go_wp2
      go_ret
      exact ⟨rfl, HB.out⟩

theorem same_one (g1 g2 c1 c2 : Nat) (z : Int) (w : World) (h1 : w.cell? ⟨g1, 0, none⟩ = some (.int .i64 z)) (h2 : w.cell? ⟨g2, 0, none⟩ = some (.int .i64 z)) :
    Calls Tryz.prog 42 #[.slice (some ⟨g1, 0, none⟩) 1 c1, .slice (some ⟨g2, 0, none⟩) 1 c2] w fun e w' => e = .returned (.bool true) ∧ Below w.heap.size w w' := by
  go_enter Tryz.func42, Tryz.ntmps42
  go_wp2_with fail
  refine wp_loop_rounds 2 ?_
  rw [rounds_succ]
  go_wp2
  go_quiet (fail)
  go_wp2
  rw [rounds_succ]
  go_wp2
  go_ret
  exact ⟨rfl, below_draws _ _⟩
end Go.Proofs.YtkbilipgidcgeaaGreatDoor.Tiny

namespace Go.Proofs.YtkbilipgidcgeaaGreatDoor.Tiny
open Go.RowKit Go.ChangeMaps Go.Maps
attribute [local go_sem] ext_cell ext_frozen
theorem buildSlice_tiny (t : Tmp) (B : ByteArray) (o : Oper) (a : Act) (w : World) (ho : o.op = .buildSlice 47 1 #[(0, .tmp t)]) (ht : a.tmps[t]?.getD undef = .agg (labCells B)) :
    (execOp a.eval o).run Tryz.prog w = .ok (.value (.slice (some ⟨w.heap.size, 0, none⟩) 1 1)) (w.alloc (.cells (labCells B) 45)) := by
  unfold labCells at *
  simp [execOp, ho, ht, go_sem]

attribute [local irreducible] labCells modC threadC

/-- The memory of small: the process, and what was returned. -/
structure Sm (w0 : World) (B : ByteArray) (n : PN) (sv : Value) (l : List Str) (X : Int) (rows : List (Nat × List Bool)) (w : World) : Prop where
  kept : Below w0.heap.size w0 w
  tiny : TinyAt w0.heap.size B tinyL w n sv l X
  rows : ∀ p ∈ rows, w.heap[p.1]? = some (.cells (p.2.map Value.bool).toArray 4 (0, 0))

theorem Sm.below {w0 : World} {B : ByteArray} {n : PN} {sv : Value} {l : List Str} {X : Int} {rows : List (Nat × List Bool)} {w w' : World} (h : Sm w0 B n sv l X rows w) (hb : Below w.heap.size w w') : Sm w0 B n sv l X rows w' :=
  ⟨h.kept.trans (hb.mono h.kept.size), h.tiny.below hb, fun p hp => (hb.block _ (lt_of_block (h.rows p hp))).trans (h.rows p hp)⟩
theorem Sm.add {w0 : World} {B : ByteArray} {n : PN} {sv : Value} {l : List Str} {X : Int} {rows : List (Nat × List Bool)} {w : World} (h : Sm w0 B n sv l X rows w) {g : Nat} {r : List Bool} (hg : w.heap[g]? = some (.cells (r.map Value.bool).toArray 4 (0, 0))) : Sm w0 B n sv l X ((g, r) :: rows) w :=
  ⟨h.kept, h.tiny, fun p hp => by rcases List.mem_cons.1 hp with rfl | hp; exact hg; exact h.rows p hp⟩

theorem sm_held0 {w0 : World} {B : ByteArray} {n : PN} {sv : Value} {X : Int} {rows : List (Nat × List Bool)} {w : World} (h : Sm w0 B n sv [] X rows w) (hf : Forms w0) :
    Calls Tryz.prog 38 #[.pointer (some ⟨n.p, 0, none⟩)] w fun e w' => ∃ gs gm, e = .returned (.tuple #[.slice (some ⟨gs, 0, none⟩) 0 0, .slice (some ⟨gm, 0, none⟩) 1 1]) ∧ Sm w0 B n sv [] X ((gm, [false]) :: rows) w' ∧ Below w.heap.size w w' := by
  refine (tiny_held0 _ B tinyL n sv X w h.tiny (hf.below h.kept)).mono ?_
  rintro e w' ⟨hb, gs, gm, _, _, rfl, h5⟩
  exact ⟨gs, gm, rfl, (h.below hb).add h5, hb⟩
theorem sm_held {w0 : World} {B : ByteArray} {n : PN} {sv : Value} {X : Int} {rows : List (Nat × List Bool)} {w : World} (h : Sm w0 B n sv strL X rows w) (hf : Forms w0) (h1 : -9223372036854775808 ≤ X) (h2 : X ≤ 9223372036854775807) :
    Calls Tryz.prog 38 #[.pointer (some ⟨n.p, 0, none⟩)] w fun e w' => ∃ gs gm, e = .returned (.tuple #[.slice (some ⟨gs, 0, none⟩) 2 2, .slice (some ⟨gm, 0, none⟩) 1 1]) ∧ Sm w0 B n sv strL X ((gs, rX X) :: rows) w' ∧ w.heap.size ≤ w'.heap.size := by
  refine (tiny_held _ B n sv X w h.tiny (hf.below h.kept) h1 h2).mono ?_
  rintro e w' ⟨hb, gs, gm, _, _, rfl, h5⟩
  exact ⟨gs, gm, rfl, (h.below hb).add h5, hb.size⟩
theorem sm_store {w0 : World} {B : ByteArray} {n : PN} {sv : Value} {l : List Str} {X : Int} {rows : List (Nat × List Bool)} {w : World} (h : Sm w0 B n sv l X rows w) (Y : Int) :
    Calls Tryz.prog 40 #[.pointer (some ⟨n.s, 0, none⟩), .int .i64 768, .int .i64 8, .int .i64 Y] w fun e w' => e = .returned (.int .i64 0) ∧ Sm w0 B n sv l Y rows w' ∧ w.heap.size ≤ w'.heap.size := by
  refine (tiny_store _ B tinyL n sv l X Y w h.tiny).mono ?_
  rintro e w' ⟨rfl, ho, ht⟩
  exact ⟨rfl, ⟨h.kept.trans (ho.below h.kept.size (fun k hk => hk ▸ h.tiny.fresh _ (foot_b2 _ _ _))), ht, fun p hp => ho.kept (h.rows p hp) (h.tiny.off (h.rows p hp) (by decide) (by decide) (by decide))⟩, ho.size⟩
theorem sm_set {w0 : World} {B : ByteArray} {n : PN} {sv : Value} {l ls : List Str} {X : Int} {rows : List (Nat × List Bool)} {w : World} (h : Sm w0 B n sv l X rows w) (nv : Value) (hs : StrAt w 0 nv ls) (hm : ls.length ≤ 1000) :
    Calls Tryz.prog 39 #[.pointer (some ⟨n.p, 0, none⟩), nv] w fun e w' => e = .returned (.tuple #[]) ∧ ∃ sv', Sm w0 B n sv' ls X rows w' ∧ w.heap.size ≤ w'.heap.size := by
  refine (tiny_set _ 0 B tinyL n sv nv l ls X w h.tiny hs hm).mono ?_
  rintro e w' ⟨rfl, ho, sv', ht⟩
  exact ⟨rfl, sv', ⟨h.kept.trans (ho.below h.kept.size (fun k hk => hk ▸ h.tiny.fp)), ht, fun p hp => ho.kept (h.rows p hp) (block_ne (h.rows p hp) h.tiny.ctx.head (by decide))⟩, ho.size⟩
theorem sm_space {w0 : World} {B : ByteArray} {n : PN} {sv : Value} {l : List Str} {X : Int} {rows : List (Nat × List Bool)} {w : World} (h : Sm w0 B n sv l X rows w) :
    Calls Tryz.prog 9 #[.pointer (some ⟨n.p, 0, none⟩)] w fun e w' => e = .returned (.pointer (some ⟨n.s, 0, none⟩)) ∧ w' = w :=
  hspace n.p n.s n.b n.l _ sv w h.tiny.ctx.head
theorem sm_code {w0 : World} {B : ByteArray} {n : PN} {sv : Value} {l : List Str} {X : Int} {rows : List (Nat × List Bool)} {w : World} (h : Sm w0 B n sv l X rows w) (hf : Forms w0) :
    Calls Tryz.prog 16 #[.pointer (some ⟨n.p, 0, none⟩), .agg #[.int .i64 576, .int .i64 16]] w fun e w' => ∃ g c, e = .returned (.slice (some ⟨g, 0, none⟩) 1 c) ∧ w'.cell? ⟨g, 0, none⟩ = some (.int .i64 608) ∧ Sm w0 B n sv l X rows w' ∧ w.heap.size ≤ w'.heap.size := by
  refine (tiny_code _ B n sv l X w h.tiny (hf.below h.kept)).mono ?_
  rintro e w' ⟨hb, g, c, rfl, hc⟩
  exact ⟨g, c, rfl, hc, h.below hb, hb.size⟩
theorem strs_new {w : World} {g : Nat} (h : w.heap[g]? = some (.cells (strsCells strL).toArray 125 (0, 0))) : StrAt w 0 (.slice (some ⟨g, 0, none⟩) 2 2) strL :=
  .inr ⟨g, 2, rfl, by decide, strsCells_length strL, .inr ⟨g, 2, _, rfl, Nat.zero_le _, h, by decide, by decide, by rw [List.size_toArray, strsCells_length]; rfl, by rw [List.take_of_length_le]; rw [strsCells_length]; decide⟩⟩

theorem sm_alike {w0 : World} {B : ByteArray} {n : PN} {sv : Value} {l : List Str} {X : Int} {rows : List (Nat × List Bool)} {w : World} (h : Sm w0 B n sv l X rows w) (g m c1 c2 : Nat) (r : List Bool) (hr : r.length ≤ 1000) (hm : m = r.length) (hg : (g, r) ∈ rows) :
    Calls Tryz.prog 41 #[.slice (some ⟨g, 0, none⟩) m c1, .slice (some ⟨w.heap.size, 0, none⟩) m c2] (w.alloc (.cells (r.map Value.bool).toArray 4)) fun e w' => e = .returned (.bool true) ∧ Sm w0 B n sv l X rows w' := by
  have hb : Below w.heap.size w (w.alloc (.cells (r.map Value.bool).toArray 4)) := (Below.refl _ _).alloc (Nat.le_refl _) _
  refine (alike_ok g w.heap.size m c1 c2 r _ hr hm ((h.below hb).rows _ hg) (heap_alloc_new _ _)).mono ?_
  rintro e w' ⟨rfl, hb'⟩
  exact ⟨rfl, (h.below hb).below hb'⟩
theorem sm_same {w0 : World} {B : ByteArray} {n : PN} {sv : Value} {l : List Str} {X : Int} {rows : List (Nat × List Bool)} {w : World} (h : Sm w0 B n sv l X rows w) (g c1 c2 : Nat) (hg : w.cell? ⟨g, 0, none⟩ = some (.int .i64 608)) (lg : g < w.heap.size) :
    Calls Tryz.prog 42 #[.slice (some ⟨g, 0, none⟩) 1 c1, .slice (some ⟨w.heap.size, 0, none⟩) 1 c2] (w.alloc (.cells #[.int .i64 608] 3)) fun e w' => e = .returned (.bool true) ∧ Sm w0 B n sv l X rows w' := by
  have hb : Below w.heap.size w (w.alloc (.cells #[.int .i64 608] 3)) := (Below.refl _ _).alloc (Nat.le_refl _) _
  refine (same_one g w.heap.size c1 c2 608 _ ((hb.cell (p := ⟨g, 0, none⟩) lg).trans hg) (cell_in (heap_alloc_new w _) 0 rfl)).mono ?_
  rintro e w' ⟨rfl, hb'⟩
  exact ⟨rfl, (h.below hb).below hb'⟩
/-- The process of the example, as New makes it. -/
theorem sm_new {w0 w : World} {B : ByteArray} {n : PN} (hk : Below w0.heap.size w0 w) (hP : ProcAt B w n) (hsp : SpaceAt w n.s (.slice (some ⟨n.g, 0, none⟩) 3 n.cap) [codeP tinyL n.b1, dataP tinyL n.b2, stackP n.b3])
    (hfr : ∀ x, spaceFoot n.s (.slice (some ⟨n.g, 0, none⟩) 3 n.cap) [codeP tinyL n.b1, dataP tinyL n.b2, stackP n.b3] x → w0.heap.size ≤ x) (hp : w0.heap.size ≤ n.p) : Sm w0 B n (.slice none 0 0) [] 0 [] w := by
  have e : [codeP tinyL n.b1, dataP tinyL n.b2, stackP n.b3] = tinyP tinyL n.b1 n.b2 n.b3 0 := by rw [dataP_zero tinyL tinyL_length]; rfl
  rw [e] at hsp hfr
  exact ⟨hk, ⟨⟨hP.head, hP.load, hP.mods, hP.thread, hP.calls, hsp, areas_tiny _ _ _ _ _, .inl ⟨rfl, rfl⟩, by decide⟩, hfr, hp⟩, fun p hp => by simp at hp⟩

set_option maxRecDepth 100000 in
set_option maxHeartbeats 4000000 in
theorem small_ok (w : World) (hf : Forms w) :
    Calls Tryz.prog 13 #[] w fun e w' => e = .returned (.bool true) ∧ Below w.heap.size w w' := by
  have HF := Lib.hid hf
  clear hf
  go_enter Tryz.func13, Tryz.ntmps13
  go_wp2_with fail
  go_at_call 14
  refine (tiny_any w HF.out).mono ?_
  rintro e w1 ⟨hb1, g1, lg1, rfl, hst1⟩
  obtain ⟨B, hB⟩ : ∃ B, B = (⟨tinyL.toArray⟩ : ByteArray) := ⟨_, rfl⟩
  rw [← hB]
  have H1 := Lib.hid (And.intro hb1 (And.intro hst1 hB))
  have l1 := hb1.size
  have lg := lt_of_block hst1
  clear hb1 hst1 hB
  go_upto_region 2 with (first
    | ((with_reducible refine at_store_law ?_); refine wpList_store_row rfl 45 _ _ rfl _ _ rfl rfl _ _ (heap_alloc_new _ _) (lab_size _) (by unfold labCells; rfl) (lab_one _) ?_; (try simp only [World.setRow_alloc_new]))
    | fail)
  refine name_world fun W hW => ?_
  have vB : Below w1.heap.size w1 W := by rw [← hW]; go_grown
  have v3 : W.heap[w1.heap.size]? = some (.cells (labCells B) 45 (0, 0)) := by rw [← hW]; exact heap_alloc_new _ _
  have HW := Lib.hid (And.intro vB v3)
  have lW := vB.size
  clear hW vB v3
  go_wp2_with (first
    | (refine wpList_load_row rfl 45 (.tmp 1) rfl _ rfl 45 (labCells B) (0, 0) _ HW.out.2 Tryz.underlying45 rfl (lab_size _) ?_)
    | (refine wpList_gets rfl (buildSlice_tiny 24 B _ _ _ rfl rfl) ?_)
    | fail)
  go_at_call 7
  have kA : Below w.heap.size w (W.alloc (.cells (labCells B) 45)) := (H1.out.1.trans (HW.out.1.mono l1)).trans (((Below.refl _ _).alloc (Nat.le_refl _) _).mono (by omega))
  refine (pnew_fresh W.heap.size tinyL B H1.out.2.2 tinyL_length _ (heap_alloc_new _ _)).mono ?_
  rintro e w2 ⟨n, rfl, hb2, hP, hsp, hfr, hnp⟩
  have h2 : Sm w B n (.slice none 0 0) [] 0 [] w2 := sm_new (kA.trans (hb2.mono kA.size)) hP hsp (fun x hx => Nat.le_trans kA.size (hfr x hx)) (Nat.le_trans kA.size hnp)
  have hst2 : w2.heap[g1]? = some (.cells (strsCells strL).toArray 125 (0, 0)) :=
    (hb2.block _ (by simp; omega)).trans (block_old ((HW.out.1.block _ lg).trans H1.out.2.1))
  have H2 := Lib.hid (And.intro h2 hst2)
  clear h2 hst2 hb2 hP hsp hfr hnp kA
  go_wp2_with fail
  go_at_call 38
  refine (sm_held0 H2.out.1 HF.out).mono ?_
  rintro e w3 ⟨gs0, gm0, rfl, h3, hb3⟩
  have hst3 := (hb3.block _ (lt_of_block H2.out.2)).trans H2.out.2
  have H3 := Lib.hid (And.intro h3 hst3)
  clear h3 hst3 hb3
  go_wp2_with fail
  go_at_call 39
  refine (sm_set H3.out.1 _ (strs_new H3.out.2) (by decide)).mono ?_
  rintro e w4 ⟨rfl, sv, h4, l4⟩
  have H4 := Lib.hid h4
  clear h4
  go_wp2_with fail
  go_at_call 38
  refine (sm_held H4.out HF.out (by decide) (by decide)).mono ?_
  rintro e w5 ⟨gs1, gm1, rfl, h5, l5⟩
  have H5 := Lib.hid h5
  clear h5
  go_wp2_with fail
  go_at_call 9
  refine (sm_space H5.out).mono ?_
  rintro e w6 ⟨rfl, rfl⟩
  go_wp2_with fail
  go_at_call 40
  refine (sm_store H5.out 584).mono ?_
  rintro e w7 ⟨rfl, h7, l7⟩
  have H7 := Lib.hid h7
  clear h7
  go_wp2_with fail
  go_at_call 38
  refine (sm_held H7.out HF.out (by decide) (by decide)).mono ?_
  rintro e w8 ⟨gs2, gm2, rfl, h8, l8⟩
  have H8 := Lib.hid h8
  clear h8
  go_wp2_with fail
  go_at_call 9
  refine (sm_space H8.out).mono ?_
  rintro e w9 ⟨rfl, rfl⟩
  go_wp2_with fail
  go_at_call 40
  refine (sm_store H8.out 612).mono ?_
  rintro e w10 ⟨rfl, h10, l10⟩
  have H10 := Lib.hid h10
  clear h10
  go_wp2_with fail
  go_at_call 38
  refine (sm_held H10.out HF.out (by decide) (by decide)).mono ?_
  rintro e w11 ⟨gs3, gm3, rfl, h11, l11⟩
  have H11 := Lib.hid h11
  clear h11
  go_wp2_with fail
  go_at_call 9
  refine (sm_space H11.out).mono ?_
  rintro e w12 ⟨rfl, rfl⟩
  go_wp2_with fail
  go_at_call 40
  refine (sm_store H11.out 616).mono ?_
  rintro e w13 ⟨rfl, h13, l13⟩
  have H13 := Lib.hid h13
  clear h13
  go_wp2_with fail
  go_at_call 38
  refine (sm_held H13.out HF.out (by decide) (by decide)).mono ?_
  rintro e w14 ⟨gs4, gm4, rfl, h14, l14⟩
  have H14 := Lib.hid h14
  clear h14
  go_wp2_with fail
  go_at_call 9
  refine (sm_space H14.out).mono ?_
  rintro e w15 ⟨rfl, rfl⟩
  go_wp2_with fail
  go_at_call 40
  refine (sm_store H14.out 617).mono ?_
  rintro e w16 ⟨rfl, h16, l16⟩
  have H16 := Lib.hid h16
  clear h16
  go_wp2_with fail
  go_at_call 38
  refine (sm_held H16.out HF.out (by decide) (by decide)).mono ?_
  rintro e w17 ⟨gs5, gm5, rfl, h17, l17⟩
  have H17 := Lib.hid h17
  clear h17
  have h17 : Sm w B n sv strL 617 [(gs5, [false, false]), (gs4, [false, true]), (gs3, [false, true]), (gs2, [true, true]), (gs1, [false, false]), (gm0, [false])] w17 := H17.out
  have HA0 := Lib.hid h17
  clear h17
  go_wp2_with fail
  go_at_call 41
  refine (sm_alike HA0.out gm0 1 _ _ [false] (by decide) rfl (by simp)).mono ?_
  rintro e v1 ⟨rfl, h1⟩
  have HA1 := Lib.hid h1
  clear h1
  go_wp2_with fail
  go_at_call 41
  refine (sm_alike HA1.out gs1 2 _ _ [false, false] (by decide) rfl (by simp)).mono ?_
  rintro e v2 ⟨rfl, h2⟩
  have HA2 := Lib.hid h2
  clear h2
  go_wp2_with fail
  go_at_call 41
  refine (sm_alike HA2.out gs2 2 _ _ [true, true] (by decide) rfl (by simp)).mono ?_
  rintro e v3 ⟨rfl, h3⟩
  have HA3 := Lib.hid h3
  clear h3
  go_wp2_with fail
  go_at_call 41
  refine (sm_alike HA3.out gs3 2 _ _ [false, true] (by decide) rfl (by simp)).mono ?_
  rintro e v4 ⟨rfl, h4⟩
  have HA4 := Lib.hid h4
  clear h4
  go_wp2_with fail
  go_at_call 41
  refine (sm_alike HA4.out gs4 2 _ _ [false, true] (by decide) rfl (by simp)).mono ?_
  rintro e v5 ⟨rfl, h5⟩
  have HA5 := Lib.hid h5
  clear h5
  go_wp2_with fail
  go_at_call 41
  refine (sm_alike HA5.out gs5 2 _ _ [false, false] (by decide) rfl (by simp)).mono ?_
  rintro e v6 ⟨rfl, h6⟩
  have HA6 := Lib.hid h6
  clear h6
  go_wp2_with fail
  go_at_call 16
  refine (sm_code HA6.out HF.out).mono ?_
  rintro e v7 ⟨gc, cc, rfl, hc, h7, _⟩
  have lgc := World.block_lt_of_cell? _ _ hc
  have HA7 := Lib.hid (And.intro h7 hc)
  clear h7 hc
  go_wp2_with fail
  go_at_call 42
  refine (sm_same HA7.out.1 gc _ _ HA7.out.2 lgc).mono ?_
  rintro e v8 ⟨rfl, h8⟩
  have HA8 := Lib.hid h8
  clear h8
  go_wp2
  go_ret
  exact ⟨rfl, HA8.out.kept⟩
end Go.Proofs.YtkbilipgidcgeaaGreatDoor.Tiny

namespace Go.Proofs.YtkbilipgidcgeaaGreatDoor.Tiny
open Go.RowKit

/-- A number of two halves. -/
def joined (hi lo : Int) : Int := hi * 4294967296 + lo % 4294967296
theorem comb_joined (hi lo : Int) (h1 : -2147483648 ≤ hi) (h2 : hi ≤ 2147483647) : comb hi lo = joined hi lo := by
  unfold comb joined
  have hw : wrap64 (hi * 4294967296) = hi * 4294967296 := IntWalk.wrap64_in _ (by omega)
  rw [hw]
  unfold bits
  simp only [BitVec.toNat_or, BitVec.toNat_ofInt]
  have e1 : ((hi * 4294967296) % ((2 ^ IntKind.i64.bits : Nat) : Int)).toNat = 2 ^ 32 * (hi % 4294967296).toNat := by
    show ((hi * 4294967296) % 18446744073709551616).toNat = 4294967296 * (hi % 4294967296).toNat
    omega
  have e2 : ((lo % 4294967296) % ((2 ^ IntKind.i64.bits : Nat) : Int)).toNat = (lo % 4294967296).toNat := by
    show ((lo % 4294967296) % 18446744073709551616).toNat = (lo % 4294967296).toNat
    omega
  rw [e1, e2, ← Nat.two_pow_add_eq_or_of_lt (by show (lo % 4294967296).toNat < 4294967296; omega)]
  show IntKind.i64.wrap ((4294967296 * (hi % 4294967296).toNat + (lo % 4294967296).toNat : Nat) : Int) = _
  rw [IntWalk.i64_left]
  unfold wrap64
  omega

theorem and_low (n : Int) : bits BinOp.and IntKind.i64 n 4294967295 = n % 4294967296 := by
  unfold bits
  simp only []
  rw [BitVec.toNat_and, show (BitVec.ofInt IntKind.i64.bits 4294967295).toNat = 2 ^ 32 - 1 from rfl, Nat.and_two_pow_sub_one_eq_mod, BitVec.toNat_ofInt]
  have e : ((n % ((2 ^ IntKind.i64.bits : Nat) : Int)).toNat % 2 ^ 32 : Nat) = (n % 4294967296).toNat := by
    show (n % 18446744073709551616).toNat % 4294967296 = _
    omega
  rw [e, IntWalk.i64_left]
  unfold wrap64
  omega
/-- The numbers of an OpSet with each OpHigh of a list. -/
def highsW (x : InsR) (l : List InsR) : List Int := (l.filter fun y => decide (y.op = 4 ∧ y.a = x.a)).map fun y => joined y.imm x.imm
open Classical in
noncomputable def rowW (l : List InsR) (i : Nat) (x : InsR) : List Int := if JumpOp x.op then [512 + 8 * (i : Int) + x.imm] else if x.op = 3 then x.imm :: highsW x l else []
noncomputable def wantAt (l : List InsR) (i : Nat) : List Int := match l[i]? with | some x => rowW l i x | none => []
/-- The numbers wanted of the first k instructions. -/
noncomputable def wantW (l : List InsR) (k : Nat) : List Int := (List.range k).flatMap (wantAt l)

theorem want_succ (l : List InsR) (k : Nat) (hk : k < l.length) : wantW l (k + 1) = wantW l k ++ rowW l k l[k] := by
  unfold wantW
  rw [List.range_succ, List.flatMap_append, List.flatMap_cons, List.flatMap_nil, List.append_nil]
  unfold wantAt
  rw [List.getElem?_eq_getElem hk]
theorem row_jump {l : List InsR} {i : Nat} {x : InsR} (h : JumpOp x.op) : rowW l i x = [512 + 8 * (i : Int) + x.imm] := by unfold rowW; rw [if_pos h]
theorem row_set' {l : List InsR} {i : Nat} {x : InsR} (h : x.op = 3) : rowW l i x = x.imm :: highsW x l := by
  unfold rowW
  rw [if_neg (by rw [h]; unfold JumpOp; decide), if_pos h]
theorem row_none {l : List InsR} {i : Nat} {x : InsR} (h1 : ¬ JumpOp x.op) (h2 : x.op ≠ 3) : rowW l i x = [] := by unfold rowW; rw [if_neg h1, if_neg h2]
theorem highs_take (x : InsR) (l : List InsR) (k : Nat) (hk : k < l.length) : highsW x (l.take (k + 1)) = highsW x (l.take k) ++ (if l[k].op = 4 ∧ l[k].a = x.a then [joined l[k].imm x.imm] else []) := by
  unfold highsW
  rw [List.take_succ_eq_append_getElem hk, List.filter_append, List.map_append]
  congr 1
  by_cases h : l[k].op = 4 ∧ l[k].a = x.a
  · rw [if_pos h]; simp [List.filter_cons, h]
  · rw [if_neg h]; simp only [List.filter_cons, decide_eq_false h]; simp
theorem highs_len (x : InsR) (l : List InsR) : (highsW x l).length ≤ l.length := by
  unfold highsW
  rw [List.length_map]
  exact List.length_filter_le _ _
theorem row_len (l : List InsR) (i : Nat) (x : InsR) : (rowW l i x).length ≤ l.length + 1 := by
  unfold rowW
  split
  · simp
  · split
    · have := highs_len x l
      rw [List.length_cons]
      omega
    · simp
theorem want_len (l : List InsR) : ∀ k, (wantW l k).length ≤ k * (l.length + 1)
  | 0 => by simp [wantW]
  | k + 1 => by
    have ih := want_len l k
    unfold wantW at ih ⊢
    rw [List.range_succ, List.flatMap_append, List.flatMap_cons, List.flatMap_nil, List.append_nil, List.length_append, Nat.succ_mul]
    have : (wantAt l k).length ≤ l.length + 1 := by
      unfold wantAt
      split
      · exact row_len _ _ _
      · simp
    omega

/-- What is wanted. -/
theorem want_iff (l : List InsR) (z : Int) : z ∈ wantW l l.length ↔ ∃ i, ∃ h : i < l.length, (JumpOp l[i].op ∧ z = 512 + 8 * (i : Int) + l[i].imm) ∨ (l[i].op = 3 ∧ (z = l[i].imm ∨ ∃ y ∈ l, y.op = 4 ∧ y.a = l[i].a ∧ z = joined y.imm l[i].imm)) := by
  unfold wantW
  rw [List.mem_flatMap]
  constructor
  · rintro ⟨i, hi, hz⟩
    have hil := List.mem_range.1 hi
    unfold wantAt at hz
    rw [List.getElem?_eq_getElem hil] at hz
    have hz : z ∈ rowW l i l[i] := hz
    refine ⟨i, hil, ?_⟩
    by_cases hj : JumpOp l[i].op
    · rw [row_jump hj, List.mem_singleton] at hz
      exact .inl ⟨hj, hz⟩
    · by_cases h3 : l[i].op = 3
      · rw [row_set' h3] at hz
        refine .inr ⟨h3, ?_⟩
        rcases List.mem_cons.1 hz with hz | hz
        · exact .inl hz
        · unfold highsW at hz
          obtain ⟨y, hy, rfl⟩ := List.mem_map.1 hz
          obtain ⟨hy1, hy2⟩ := List.mem_filter.1 hy
          obtain ⟨a, b⟩ := of_decide_eq_true hy2
          exact .inr ⟨y, hy1, a, b, rfl⟩
      · rw [row_none hj h3] at hz
        exact absurd hz (by simp)
  · rintro ⟨i, hil, h⟩
    refine ⟨i, List.mem_range.2 hil, ?_⟩
    unfold wantAt
    rw [List.getElem?_eq_getElem hil]
    show z ∈ rowW l i l[i]
    rcases h with ⟨hj, rfl⟩ | ⟨h3, h⟩
    · rw [row_jump hj]; simp
    · rw [row_set' h3]
      rcases h with rfl | ⟨y, hy, h4, ha, rfl⟩
      · simp
      · refine List.mem_cons_of_mem _ ?_
        unfold highsW
        exact List.mem_map.2 ⟨y, List.mem_filter.2 ⟨hy, decide_eq_true ⟨h4, ha⟩⟩, rfl⟩

/-- What is got. -/
theorem got_iff (l : List InsR) (hs : List (Int × List UInt8)) (hl : hs.length = l.length) (ha : ∀ i (h : i < hs.length), hs[i].1 = 512 + 8 * (i : Int)) (hr : ∀ x ∈ l, x.Right) (z : Int) :
    (MadeTo hs l l.length z ∨ Comb (lowsJ l) (highsJ l) z) ↔ z ∈ wantW l l.length := by
  rw [want_iff]
  constructor
  · rintro (⟨j, h1, h2, _, h⟩ | ⟨r, lo, hlo, hi, hhi, hz⟩)
    · refine ⟨j, h2, ?_⟩
      rcases h with ⟨hj, hz⟩ | ⟨h3, hz⟩
      · rw [ha j h1] at hz
        exact .inl ⟨hj, hz⟩
      · exact .inr ⟨h3, .inl hz⟩
    · unfold lowsJ at hlo
      unfold highsJ at hhi
      obtain ⟨x, hx, rfl⟩ := List.mem_map.1 hlo
      obtain ⟨y, hy, rfl⟩ := List.mem_map.1 hhi
      obtain ⟨hx1, hx2⟩ := List.mem_filter.1 hx
      obtain ⟨hy1, hy2⟩ := List.mem_filter.1 hy
      obtain ⟨x3, xr⟩ := of_decide_eq_true hx2
      obtain ⟨y4, yr⟩ := of_decide_eq_true hy2
      obtain ⟨i, hi, hxi⟩ := List.getElem_of_mem hx1
      have hf := (hr y hy1).im.fit
      refine ⟨i, hi, .inr ⟨by rw [hxi]; exact x3, .inr ⟨y, hy1, y4, by rw [hxi, ← yr, xr], ?_⟩⟩⟩
      rw [hz, hxi]
      exact comb_joined _ _ hf.1 hf.2
  · rintro ⟨i, hi, h⟩
    rcases h with ⟨hj, hz⟩ | ⟨h3, h⟩
    · refine .inl ⟨i, by omega, hi, hi, .inl ⟨hj, ?_⟩⟩
      rw [ha i (by omega)]
      exact hz
    · rcases h with hz | ⟨y, hy, h4, hya, hz⟩
      · exact .inl ⟨i, by omega, hi, hi, .inr ⟨h3, hz⟩⟩
      · have hf := (hr y hy).im.fit
        refine .inr ⟨l[i].a, l[i].imm, ?_, y.imm, ?_, ?_⟩
        · unfold lowsJ
          exact List.mem_map.2 ⟨l[i], List.mem_filter.2 ⟨List.getElem_mem hi, decide_eq_true ⟨h3, rfl⟩⟩, rfl⟩
        · unfold highsJ
          exact List.mem_map.2 ⟨y, List.mem_filter.2 ⟨hy, decide_eq_true ⟨h4, hya.symm⟩⟩, rfl⟩
        · rw [hz]
          exact (comb_joined _ _ hf.1 hf.2).symm

open Classical in
/-- The numbers of a list, each at its first place. -/
noncomputable def firstsW (xs : List Int) : Nat → List Int
  | 0 => []
  | k + 1 => if (xs[k]?.getD 0) ∈ xs.take k then firstsW xs k else firstsW xs k ++ [xs[k]?.getD 0]
theorem firsts_ok (xs : List Int) : ∀ k, k ≤ xs.length → (firstsW xs k).Nodup ∧ ∀ z, z ∈ firstsW xs k ↔ z ∈ xs.take k
  | 0, _ => ⟨by simp [firstsW], fun z => by simp [firstsW]⟩
  | k + 1, hk => by
    obtain ⟨h1, h2⟩ := firsts_ok xs k (by omega)
    have hx : xs[k]?.getD 0 = xs[k]'(by omega) := by rw [List.getElem?_eq_getElem (by omega)]; rfl
    have ht : ∀ z, z ∈ xs.take (k + 1) ↔ z ∈ xs.take k ∨ z = xs[k]'(by omega) := fun z => by
      rw [List.take_succ_eq_append_getElem (by omega), List.mem_append, List.mem_singleton]
    unfold firstsW
    rw [hx]
    split
    · rename_i hm
      refine ⟨h1, fun z => ?_⟩
      rw [h2 z, ht z]
      exact ⟨.inl, fun h => h.elim id (fun h => h ▸ hm)⟩
    · rename_i hm
      refine ⟨List.nodup_append.2 ⟨h1, by simp, fun a ha b hb => ?_⟩, fun z => ?_⟩
      · rw [List.mem_singleton] at hb
        intro e
        rw [e, hb] at ha
        exact hm ((h2 _).1 ha)
      · rw [List.mem_append, List.mem_singleton, h2 z, ht z]
theorem firsts_all (xs ss : List Int) (hnd : ss.Nodup) (hm : ∀ z, z ∈ ss ↔ z ∈ xs) : (firstsW xs xs.length).length = ss.length := by
  obtain ⟨h1, h2⟩ := firsts_ok xs xs.length (Nat.le_refl _)
  refine List.Perm.length_eq ((List.perm_ext_iff_of_nodup h1 hnd).2 fun z => ?_)
  rw [h2 z, List.take_length, hm z]
theorem firsts_len (xs : List Int) : ∀ k, (firstsW xs k).length ≤ k
  | 0 => by simp [firstsW]
  | k + 1 => by
    have := firsts_len xs k
    unfold firstsW
    split
    · omega
    · rw [List.length_append]; simp; omega

/-- The image with other bytes. -/
theorem lab_set (B B' : ByteArray) : ((labCells B).toList.set 5 (.string B')).toArray = labCells B' := by unfold labCells; rfl
/-- The bytes of instructions, and behind them the example's. -/
def makesL (l : List InsR) : List UInt8 := l.flatMap encI ++ tinyL.drop (8 * l.length)
theorem makesL_length (l : List InsR) (h : l.length ≤ 20) : (makesL l).length = 256 := by
  unfold makesL
  rw [List.length_append, encI_all, List.length_drop, tinyL_length]
  omega
theorem tail_str (L : List UInt8) (n : Nat) : (⟨L.toArray⟩ : ByteArray).extract n (⟨L.toArray⟩ : ByteArray).size = ⟨(L.drop n).toArray⟩ := by
  apply ByteArray.ext
  rw [ByteArray.data_extract]
  show L.toArray.extract n L.toArray.size = _
  rw [List.size_toArray, List.extract_toArray]
  simp
  exact List.take_of_length_le (by simp)
theorem hits_makes (l : List InsR) (h : l.length ≤ 20) (b1 b2 b3 : Nat) (X : Int) : hitsL (tinyP (makesL l) b1 b2 b3 X) 512 (8 * (l.length : Int)) = (List.range l.length).map fun (i : Nat) => (512 + 8 * (((0 + i : Nat)) : Int), ((makesL l).drop (8 * (0 + i))).take 8) :=
  hits_code (makesL l) (makesL_length l h) b1 b2 b3 X 0 l.length (by omega)
end Go.Proofs.YtkbilipgidcgeaaGreatDoor.Tiny

namespace Go.Proofs.YtkbilipgidcgeaaGreatDoor.Tiny
open Go.RowKit
attribute [local go_sem] ext_cell ext_frozen

/-- A list of numbers in memory. -/
def IntsV (w : World) (v : Value) (xs : List Int) : Prop := (v = .slice none 0 0 ∧ xs = []) ∨ ∃ g cap, v = .slice (some ⟨g, 0, none⟩) xs.length cap ∧ g < w.heap.size ∧ ∀ j (h : j < xs.length), w.cell? ⟨g, j, none⟩ = some (.int .i64 xs[j])
theorem IntsV.below {w w' : World} {v : Value} {xs : List Int} (h : IntsV w v xs) (hb : Below w.heap.size w w') : IntsV w' v xs := by
  rcases h with h | ⟨g, cap, h1, h2, h3⟩
  · exact .inl h
  · exact .inr ⟨g, cap, h1, Nat.lt_of_lt_of_le h2 hb.size, fun j hj => (hb.cell (p := ⟨g, j, none⟩) h2).trans (h3 j hj)⟩
theorem ints_row {w : World} {base : Nat} {v : Value} {xs : List Int} (h : w.ownsRow base 3 1 v xs.length (xs.map (Value.int .i64))) : IntsV w v xs := by
  rcases h.2 with ⟨rfl, h0⟩ | ⟨g, cap, cur, rfl, _, hh, _⟩
  · exact .inl ⟨rfl, List.length_eq_zero_iff.1 h0⟩
  · refine .inr ⟨g, cap, rfl, lt_of_block hh, fun j hj => (row_cell h j ?_).1⟩
    rw [List.getElem?_map, List.getElem?_eq_getElem hj]
    rfl

set_option maxRecDepth 100000 in
set_option maxHeartbeats 4000000 in
theorem has_any (v : Value) (xs : List Int) (n : Int) (r : Bool) (w : World) (hv : IntsV w v xs) (hl : xs.length ≤ 10000) (hr : r = true ↔ n ∈ xs) :
    Calls Tryz.prog 17 #[v, .int .i64 n] w fun e w' => e = .returned (.bool r) ∧ w' = w := by
  rcases hv with ⟨rfl, rfl⟩ | ⟨g, cap, rfl, hg, hc⟩
  · have hr0 : r = false := by cases r with
      | false => rfl
      | true => exact absurd (hr.1 rfl) (by simp)
    subst hr0
    clear hr
    go_enter Tryz.func17, Tryz.ntmps17
    go_wp2
    refine wp_loop_rounds 1 ?_
    rw [rounds_succ]
    go_wp2
    go_ret
    exact ⟨rfl, rfl⟩
  · have HH := Lib.hid (And.intro hc hr)
    clear hc hr
    go_enter Tryz.func17, Tryz.ntmps17
    go_wp2_with fail
    go_loopw [5] (fun i wr => ∃ k : Nat, k ≤ xs.length ∧ i = .int .i64 k ∧ wr = w ∧ n ∉ xs.take k) (fun i _ => xs.length - (vI i).toNat)
    case atStart => exact ⟨0, Nat.zero_le _, rfl, rfl, by simp⟩
    case round =>
      obtain ⟨k, hk, rfl, rfl, hn⟩ := hrel
      by_cases hlt : k < xs.length
      · have c := HH.out.1 k hlt
        have k0 : (0 : Int) ≤ (k : Int) := by omega
        have hlt' : (k : Int) < (xs.length : Int) := by omega
        by_cases he : xs[k] = n
        · have hr1 : r = true := HH.out.2.2 (by rw [← he]; exact List.getElem_mem hlt)
          rw [he] at c
          subst hr1
          clear hn he
          go_wp2
          go_ret
          exact ⟨rfl, rfl⟩
        · have htk : n ∉ xs.take (k + 1) := by
            rw [List.take_succ_eq_append_getElem hlt, List.mem_append, List.mem_singleton]
            exact fun h => h.elim hn (fun h => he h.symm)
          obtain ⟨y, hy⟩ : ∃ y, y = xs[k] := ⟨_, rfl⟩
          rw [← hy] at c he
          have HT := Lib.hid htk
          clear hn htk hy
          go_wp2
          go_roundw
          case rel => exact ⟨k + 1, by omega, by go_num, by first | rfl | trivial, HT.out⟩
          case measure => simp [vI]; omega
      · obtain rfl : k = xs.length := by omega
        have hr0 : r = false := by cases r with
          | false => rfl
          | true => exact absurd (HH.out.2.1 rfl) (by rw [List.take_length] at hn; exact hn)
        subst hr0
        clear hn
        go_wp2
        go_ret
        exact ⟨rfl, rfl⟩
end Go.Proofs.YtkbilipgidcgeaaGreatDoor.Tiny
