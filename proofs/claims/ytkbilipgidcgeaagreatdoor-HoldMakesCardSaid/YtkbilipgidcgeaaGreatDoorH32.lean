/- proc: Threads, Mods, Space, Strata, SetStrata of the process of law 38's example. hold: strata, the view; proc: Strata, SetStrata. hold: what is known of a process: of, mapped, closed. hold: each: the words of a span, in the areas. hold: each, its function words. -/
import Derived.StillTailTactics
import Derived.Deep.MidRow
import Derived.Test.YtkbilipgidcgeaaGreatDoorH30
import Derived.Test.YtkbilipgidcgeaaGreatDoorH31
import Derived.Test.YtkbilipgidcgeaaGreatDoorH28
import Derived.Test.YtkbilipgidcgeaaGreatDoorH10
import Derived.Test.YtkbilipgidcgeaaGreatDoorH11
import Derived.Test.YtkbilipgidcgeaaGreatDoorH08
import Derived.Test.YtkbilipgidcgeaaGreatDoorH21
import Derived.Laws.BitsAllLaws
import Derived.IntWalk
set_option linter.unusedVariables false
set_option linter.unusedSimpArgs false
namespace Go.Proofs.YtkbilipgidcgeaaGreatDoor.Tiny
open Go.RowKit Go.ChangeMaps
attribute [local go_sem] ext_cell ext_frozen run_store_func mk_ints0 mk_ints1 mk_ints2 mk_lists0 mk_lists1 mk_lists2 ta_ints run_makeMap
attribute [local irreducible] labCells modC

/-- A process's cells. -/
def procS (s b l : Nat) (th sv : Value) : List Value := [.pointer (some ⟨s, 0, none⟩), .pointer (some ⟨b, 0, none⟩), .pointer (some ⟨l, 0, none⟩), th, .slice none 0 0, sv, .bool false, .bool false]

theorem ownsRow_all {w : World} {base : Nat} {e : TypeId} {size g cap n : Nat} {xs vs : List Value} (h : w.ownsRow base e size (.slice (some ⟨g, 0, none⟩) n cap) n xs) (hv : vs.length = n * size) : (w.setCells g 0 vs).ownsRow base e size (.slice (some ⟨g, 0, none⟩) n cap) n vs := by
  refine ⟨hv, ?_⟩
  rcases h.2 with ⟨h0, _⟩ | ⟨g', cap', cur, h1, h2, h3, h4, h5, h6, h7⟩
  · cases h0
  · simp only [Value.slice.injEq, Option.some.injEq, Addr.mk.injEq, and_true, true_and] at h1
    obtain ⟨rfl, rfl⟩ := h1
    have hle : vs.length ≤ cur.toList.length := by rw [hv, Array.length_toList, h6]; exact Nat.mul_le_mul_right _ h4
    have hb := block_setCells g e (0, 0) vs cur.toList 0 w (by omega) (by simpa using h3)
    refine .inr ⟨g, cap, _, rfl, h2, hb, h4, h5, ?_, ?_⟩
    · have h8 : cur.toList.length = cap * size := by rw [Array.length_toList]; exact h6
      rw [List.size_toArray, List.length_append, List.length_append, List.length_take, List.length_drop, Nat.zero_min]
      omega
    · simp only [List.take_zero, List.nil_append]
      rw [← hv, List.take_left']
      rfl

theorem thread_all (x : Int) (g c : Nat) : (threadC x (.slice (some ⟨g, 0, none⟩) 1 c)).toArray.all (·.oneCell') = true := by simp [threadC, Value.oneCell']

set_option maxRecDepth 100000 in
set_option maxHeartbeats 1000000 in
theorem pcopied (x : Int) (gc cc : Nat) (w : World) (hc : w.ownsRow 0 3 1 (.slice (some ⟨gc, 0, none⟩) 1 cc) 1 [.int .i64 512]) :
    Calls Tryz.prog 102 #[.agg (threadC x (.slice (some ⟨gc, 0, none⟩) 1 cc)).toArray] w fun e w' => (∃ g c, e = .returned (.agg (threadC x (.slice (some ⟨g, 0, none⟩) 1 c)).toArray) ∧ w'.ownsRow w.heap.size 3 1 (.slice (some ⟨g, 0, none⟩) 1 c) 1 [.int .i64 512]) ∧ Below w.heap.size w w' := by
  have HC := Lib.hid hc
  clear hc
  go_enter Tryz.func102, Tryz.ntmps102
  go_upto_region 1 with fail
  refine name_world fun V hV => ?_
  have vB : Below w.heap.size w V := by rw [← hV]; go_grown
  have vx : V.heap[w.heap.size]? = some (.cells (threadC x (.slice (some ⟨gc, 0, none⟩) 1 cc)).toArray 100 (0, 0)) := by rw [← hV]; (repeat (first | exact block_at (by first | rfl | (simp; done) | (simp; omega)) | refine block_old ?_))
  have vz : ∃ z : Array Value, z.size = 23 ∧ V.heap[w.heap.size + 1]? = some (.cells z 100 (0, 0)) := by rw [← hV]; exact ⟨_, rfl, heap_alloc2_new _ _ _⟩
  obtain ⟨z, hz, vz⟩ := vz
  clear hV
  have lz : w.heap.size + 2 ≤ V.heap.size := by have := lt_of_block vz; omega
  have HV := Lib.hid (And.intro vB vz)
  have vc := ownsRow_below' HC.out vB
  clear vB vz
  have vx' := vx
  unfold threadC at vx'
  refine wp_region_facts [.val (.pointer (some ⟨w.heap.size, 21, none⟩)), .val (.slice (some ⟨gc, 0, none⟩) 1 cc), .more (fun v w' => ∃ g c, v = .slice (some ⟨g, 0, none⟩) 1 c ∧ w'.ownsRow (w.heap.size + 2) 3 1 (.slice (some ⟨g, 0, none⟩) 1 c) 1 [.int .i64 512]) (fun v w' w'' hb h => by obtain ⟨g, c, h1, h2⟩ := h; exact ⟨g, c, h1, ownsRow_below' h2 hb⟩), .val (.pointer (some ⟨w.heap.size, 22, none⟩)), .val (.slice none 0 0), .val (.slice none 0 0), .val (.pointer (some ⟨w.heap.size, 21, none⟩))] (by kernel_rfl) (by kernel_rfl) ?_ ?_
  · simp only [stepsAll, List.take, List.length]
    refine ⟨?_, ?_, ?_, ?_, ?_, ?_, ?_, ?_⟩
    all_goals first | trivial | (intro a wr hb hf hd)
    all_goals have hf1 : a.tmps[(1 : Nat)]?.getD undef = .pointer (some ⟨w.heap.size, 0, none⟩) := (hf 1 (by decide +kernel)).trans rfl
    · exact grow_value (v := .pointer (some ⟨w.heap.size, 21, none⟩)) (by simp [execOp, hf1, go_sem]) (Below.refl _ _) ⟨rfl, fun h => by cases h⟩
    · have h3 : a.tmps[(3 : Nat)]?.getD undef = .pointer (some ⟨w.heap.size, 21, none⟩) := hd 0 (by simp) (by kernel_rfl)
      have hc := cell_l ((hb.block _ (lt_of_block vx')).trans vx') 21 (rfl)
      exact grow_value (v := .slice (some ⟨gc, 0, none⟩) 1 cc) (by simp [execOp, h3, hc, go_sem]) (Below.refl _ _) ⟨rfl, fun h => by cases h⟩
    · have h4 : a.tmps[(4 : Nat)]?.getD undef = .slice (some ⟨gc, 0, none⟩) 1 cc := hd 1 (by simp) (by kernel_rfl)
      have hmr := ownsRow_below' vc hb
      refine grow_call (f := 100) (args := #[.slice (some ⟨gc, 0, none⟩) 1 cc]) (by simp [execOp, h4, go_sem]) ?_
      refine (clone_ints gc 1 cc [.int .i64 512] _ (fun j u hj => (row_cell hmr j hj).1) rfl (by simp [Value.oneCell']) (by omega) (by omega) (ownsRow_lt hmr).2.1).mono ?_
      rintro e w3 ⟨hb3, g, c, rfl, hown3⟩
      exact ⟨_, rfl, hb3, ⟨g, c, rfl, ownsRow_base_a hown3 (Nat.le_trans lz hb.size)⟩, fun h => by cases h⟩
    · exact grow_value (v := .pointer (some ⟨w.heap.size, 22, none⟩)) (by simp [execOp, hf1, go_sem]) (Below.refl _ _) ⟨rfl, fun h => by cases h⟩
    · have h6 : a.tmps[(6 : Nat)]?.getD undef = .pointer (some ⟨w.heap.size, 22, none⟩) := hd 3 (by simp) (by kernel_rfl)
      have hc := cell_l ((hb.block _ (lt_of_block vx')).trans vx') 22 (rfl)
      exact grow_value (v := .slice none 0 0) (by simp [execOp, h6, hc, go_sem]) (Below.refl _ _) ⟨rfl, fun h => by cases h⟩
    · have h7 : a.tmps[(7 : Nat)]?.getD undef = .slice none 0 0 := hd 4 (by simp) (by kernel_rfl)
      refine grow_call (f := 185) (args := #[.slice none 0 0]) (by simp [execOp, h7, go_sem]) ?_
      refine (clone_saved_nil _).mono ?_
      rintro e w3 ⟨rfl, rfl⟩
      exact ⟨_, rfl, Below.refl _ _, rfl, fun h => by cases h⟩
    · exact grow_value (v := .pointer (some ⟨w.heap.size, 21, none⟩)) (by simp [execOp, hf1, go_sem]) (Below.refl _ _) ⟨rfl, fun h => by cases h⟩
  · intro fv w2 hb2 hs hn hne
    have g3 : fv 3 = .pointer (some ⟨w.heap.size, 21, none⟩) := hs 0 (by simp)
    have g4 : fv 4 = .slice (some ⟨gc, 0, none⟩) 1 cc := hs 1 (by simp)
    have g6 : fv 6 = .pointer (some ⟨w.heap.size, 22, none⟩) := hs 3 (by simp)
    have g7 : fv 7 = .slice none 0 0 := hs 4 (by simp)
    have g8 : fv 8 = .slice none 0 0 := hs 5 (by simp)
    have g9 : fv 9 = .pointer (some ⟨w.heap.size, 21, none⟩) := hs 6 (by simp)
    obtain ⟨g, c, g5, hg5⟩ : ∃ g c, fv 5 = .slice (some ⟨g, 0, none⟩) 1 c ∧ w2.ownsRow (w.heap.size + 2) 3 1 (.slice (some ⟨g, 0, none⟩) 1 c) 1 [.int .i64 512] := hs 2 (by simp)
    have HG5 := Lib.hid hg5
    clear hg5
    rw [show (List.range (List.length _)).map (dstOf _) = [3, 4, 5, 6, 7, 8, 9] from by kernel_rfl]
    simp only [actOf, List.foldl, Act.put, List.drop, List.length, g3, g4, g6, g7, g8, g9, g5, List.setIfInBounds_toArray, List.set_cons_zero, List.set_cons_succ]
    clear hs hn hne g3 g4 g6 g7 g8 g9 g5
    have xx := (hb2.block _ (lt_of_block vx)).trans vx
    have xz := (hb2.block _ (lt_of_block HV.out.2)).trans HV.out.2
    have xx' := xx
    unfold threadC at xx'
    have c21 := cell_l xx' 21 rfl; have f21 := free_in xx' 21; have c22 := cell_l xx' 22 rfl; have f22 := free_in xx' 22
    have HX := Lib.hid (And.intro hb2 (And.intro xx xz))
    have lx := lt_of_block xx
    clear hb2 xx xz xx' vx vx' vc
    go_upto_region 2 with fail
    refine name_world fun X hX => ?_
    have xo : Only (· = w.heap.size) w2 X := by rw [← hX]; exact ((Only.refl (· = w.heap.size) w2).setCell ⟨w.heap.size, 21, none⟩ _ (.inl rfl)).setCell ⟨w.heap.size, 22, none⟩ _ (.inl rfl)
    have yx : X.heap[w.heap.size]? = some (.cells (threadC x (.slice (some ⟨g, 0, none⟩) 1 c)).toArray 100 (0, 0)) := by rw [← hX]; exact block_set (block_set HX.out.2.1 21 _) 22 _
    have yz := xo.kept HX.out.2.2 (by omega)
    have HY := Lib.hid (And.intro xo (And.intro yx yz))
    clear hX xo yx yz c21 f21 c22 f22
    go_wp2_with (first
      | (refine wpList_load_row rfl 100 (.tmp 1) rfl w.heap.size rfl 100 (threadC x (.slice (some ⟨g, 0, none⟩) 1 c)).toArray (0, 0) _ HY.out.2.1 Tryz.underlying100 rfl (by kernel_rfl) ?_)
      | ((with_reducible refine at_store_law ?_); refine wpList_store_row rfl 100 _ _ rfl _ _ rfl rfl _ _ HY.out.2.2 (by kernel_rfl) (by rw [hz]; rfl) (thread_all x g c) ?_))
    refine bodyPost_ret (results_cell1 rfl _ _ (w.heap.size + 1) 100 (threadC x (.slice (some ⟨g, 0, none⟩) 1 c)).toArray (0, 0) _ rfl (setRow_heap X (w.heap.size + 1) z _ _ _ HY.out.2.2) Tryz.underlying100 rfl (by kernel_rfl)) rfl ⟨⟨g, c, rfl, ?_⟩, ?_⟩
    · have hg := (ownsRow_lt HG5.out).1
      exact ownsRow_base_a (ownsRow_kept (ownsRow_kept HG5.out HY.out.1 (by omega)) ((Only.refl (· = w.heap.size + 1) X).setRow _ _ (.inl rfl)) (by omega)) (by omega)
    have hB := HV.out.1.trans (HX.out.1.mono HV.out.1.size)
    exact (((Only.of_below_le hB (fun k _ h => h) : Only (fun b => w.heap.size ≤ b) w w2).then HY.out.1 (by intro k _ h; omega)).setRow (w.heap.size + 1) _ (.inl (by show w.heap.size ≤ w.heap.size + 1; omega))).below (Nat.le_refl _) (fun k h => h)

theorem thread_size (x : Int) (v : Value) : (Tryz.prog.info? 100).map (·.size) = some (threadC x v).toArray.size := by kernel_rfl
theorem thread_len (x : Int) (v : Value) : (Tryz.prog.info? 100).map (·.size) = some (threadC x v).length := by kernel_rfl
theorem thread_len' (x : Int) (v : Value) : (threadC x v).length = 23 := rfl
theorem thread_arr (x : Int) (v : Value) : (threadC x v).toArray.size = 23 := rfl
theorem thread_one (x : Int) (g c : Nat) : ∀ u ∈ threadC x (.slice (some ⟨g, 0, none⟩) 1 c), u.oneCell' = true := by simp [threadC, Value.oneCell']
attribute [local irreducible] threadC

set_option maxRecDepth 100000 in
set_option maxHeartbeats 1000000 in
theorem hthreads (p s b l gt ct gc cc : Nat) (x : Int) (sv : Value) (w : World) (hp : w.heap[p]? = some (.cells (procS s b l (.slice (some ⟨gt, 0, none⟩) 1 ct) sv).toArray 81 (0, 0)))
    (ht : w.ownsRow 0 100 23 (.slice (some ⟨gt, 0, none⟩) 1 ct) 1 (threadC x (.slice (some ⟨gc, 0, none⟩) 1 cc))) (hc : w.ownsRow 0 3 1 (.slice (some ⟨gc, 0, none⟩) 1 cc) 1 [.int .i64 512]) :
    Calls Tryz.prog 49 #[.pointer (some ⟨p, 0, none⟩)] w fun e w' => (∃ g c g3 c3, e = .returned (.slice (some ⟨g, 0, none⟩) 1 c) ∧ w'.ownsRow w.heap.size 100 23 (.slice (some ⟨g, 0, none⟩) 1 c) 1 (threadC x (.slice (some ⟨g3, 0, none⟩) 1 c3)) ∧
      w'.ownsRow w.heap.size 3 1 (.slice (some ⟨g3, 0, none⟩) 1 c3) 1 [.int .i64 512]) ∧ Below w.heap.size w w' := by
  have lp := lt_of_block hp
  unfold procS at hp
  have c3 := cell_l hp 3 rfl
  have HH := Lib.hid (And.intro ht hc)
  clear hp ht hc
  go_enter Tryz.func49, Tryz.ntmps49
  go_wp2_with (first
    | (go_at_call 101; refine (clone_threads gt 1 ct (threadC x (.slice (some ⟨gc, 0, none⟩) 1 cc)) _ (fun j u hj => (row_cell HH.out.1 j hj).1) (thread_len' _ _) (thread_one x gc cc) (by omega) (by omega) (ownsRow_lt HH.out.1).2.1).mono ?_
       rintro e w1 ⟨hb1, g, c, rfl, hown1⟩
       have lg1 := (ownsRow_lt hown1).2.1
       have H1 := Lib.hid (And.intro hb1 hown1); clear hb1 hown1))
  refine wp_loop_rounds 2 ?_
  rw [rounds_succ]
  go_upto_region 5 with (first
    | (refine wpList_load_mid rfl 100 (.tmp 16) rfl g 0 rfl (threadC x (.slice (some ⟨gc, 0, none⟩) 1 cc)) _ (row_range H1.out.2) Tryz.underlying100 rfl (thread_len _ _) ?_)
    | ((with_reducible refine at_store_law ?_); refine wpList_store_row rfl 100 _ _ rfl _ _ rfl rfl _ _ (by (repeat (first | assumption | exact heap_alloc_new _ _ | refine block_old ?_ | refine block_drew ?_ | apply setRow_heap | (refine (setRow_other _ _ _ _ ?_).trans ?_; omega)))) (thread_size _ _) (by rw [thread_arr]; rfl) (thread_all x gc cc) ?_; (try simp only [World.setRow_alloc_new])))
  have ks := H1.out.1.size
  have kc := ownsRow_below' (ownsRow_below' HH.out.2 H1.out.1) ((Below.refl w1.heap.size w1).alloc (Nat.le_refl _) (.cells (threadC x (.slice (some ⟨gc, 0, none⟩) 1 cc)).toArray 100))
  have HK := Lib.hid kc
  clear kc
  go_wp2_with (first
    | (refine wpList_load_row rfl 100 (.tmp 5) rfl w1.heap.size rfl 100 (threadC x (.slice (some ⟨gc, 0, none⟩) 1 cc)).toArray (0, 0) _ (heap_alloc_new _ _) Tryz.underlying100 rfl (thread_size _ _) ?_)
    | (go_at_call 102; refine (pcopied x gc cc _ HK.out).mono ?_; rintro e w2 ⟨⟨g3, c3', rfl, hc3⟩, hb2⟩
       have kown := ownsRow_below' (ownsRow_below' H1.out.2 ((Below.refl w1.heap.size w1).alloc (Nat.le_refl _) (.cells (threadC x (.slice (some ⟨gc, 0, none⟩) 1 cc)).toArray 100))) hb2
       have H2 := Lib.hid (And.intro hb2 (And.intro kown hc3)); clear hb2 kown hc3)
    | ((with_reducible refine at_store_law ?_); refine wpList_store_mid rfl 100 _ _ rfl g 0 (threadC x (.slice (some ⟨g3, 0, none⟩) 1 c3')).toArray rfl rfl ?ht (thread_size _ _) (thread_all x g3 c3') ?_))
  case ht =>
    intro j hj
    have hj' : j < (threadC x (.slice (some ⟨gc, 0, none⟩) 1 cc)).length := by rw [thread_arr] at hj; rw [thread_len']; exact hj
    obtain ⟨h1, h2⟩ := row_cell H2.out.2.1 j (List.getElem?_eq_getElem hj')
    rw [Nat.zero_add, h1]
    exact ⟨rfl, h2⟩
  rw [rounds_succ]
  go_wp2
  go_ret
  have hB := below_call (H1.out.1.alloc H1.out.1.size (.cells (threadC x (.slice (some ⟨gc, 0, none⟩) 1 cc)).toArray 100)) H2.out.1
  have hg1 := ownsRow_lt H1.out.2
  have hg3 := (ownsRow_lt H2.out.2.2).1
  have e1 : ∀ o, (w1.alloc o).heap.size = w1.heap.size + 1 := fun o => by simp
  rw [e1] at hg3
  refine ⟨⟨g, c, g3, c3', rfl, ownsRow_all H2.out.2.1 (thread_len' _ _), ownsRow_base_a (ownsRow_kept H2.out.2.2 (Only.setCells (S := (· = g)) g (.inl rfl) _ 0 _ (Only.refl _ _)) (by have := hg1.2.1; omega)) (by rw [e1]; omega)⟩, ?_⟩
  exact (Only.setCells g (.inr hg1.1) _ 0 _ (Only.of_below_le hB (fun k _ h => h) : Only (fun b => w.heap.size ≤ b) w w2)).below (Nat.le_refl _) (fun k h => h)

set_option maxRecDepth 100000 in
theorem hspace (p s b l : Nat) (th sv : Value) (w : World) (hp : w.heap[p]? = some (.cells (procS s b l th sv).toArray 81 (0, 0))) :
    Calls Tryz.prog 9 #[.pointer (some ⟨p, 0, none⟩)] w fun e w' => e = .returned (.pointer (some ⟨s, 0, none⟩)) ∧ w' = w := by
  have lp := lt_of_block hp
  unfold procS at hp
  have c0 := cell_l hp 0 rfl
  clear hp
  go_enter Tryz.func9, Tryz.ntmps9
  go_wp2
  go_ret
  exact ⟨rfl, rfl⟩

set_option maxRecDepth 100000 in
theorem hmods (B : ByteArray) (p s b l st gm cm s' b' : Nat) (th sv ord : Value) (w : World) (hp : w.heap[p]? = some (.cells (procS s b l th sv).toArray 81 (0, 0))) (hl : w.heap[l]? = some (.cells (loaderC s' b' st (.slice (some ⟨gm, 0, none⟩) 1 cm) ord).toArray 149 (0, 0)))
    (hm : w.ownsRow 0 91 32 (.slice (some ⟨gm, 0, none⟩) 1 cm) 1 (modC B 512 1)) :
    Calls Tryz.prog 32 #[.pointer (some ⟨p, 0, none⟩)] w fun e w' => Below w.heap.size w w' ∧ ∃ g c, e = .returned (.slice (some ⟨g, 0, none⟩) 1 c) ∧ w'.ownsRow w.heap.size 91 32 (.slice (some ⟨g, 0, none⟩) 1 c) 1 (modC B 512 1) := by
  have lp := lt_of_block hp
  unfold procS at hp
  have c2 := cell_l hp 2 rfl
  have HH := Lib.hid (And.intro hl hm)
  clear hp hl hm
  go_enter Tryz.func32, Tryz.ntmps32
  go_wp2_with (go_at_call 26; refine (lmods l s' b' st gm cm ord B _ HH.out.1 HH.out.2).mono ?_; rintro e w1 ⟨hb1, g, c, rfl, hown⟩; have H1 := Lib.hid (And.intro hb1 hown); clear hb1 hown)
  go_ret
  exact ⟨H1.out.1, g, c, rfl, H1.out.2⟩
end Go.Proofs.YtkbilipgidcgeaaGreatDoor.Tiny

namespace Go.Proofs.YtkbilipgidcgeaaGreatDoor.Tiny
open Go.RowKit Go.ChangeMaps
attribute [local go_sem] ext_cell ext_frozen
attribute [local irreducible] labCells modC threadC

/-- A stratum. -/
structure Str where
  mod : Int
  im : ByteArray
  obj : ByteArray
  sec : ByteArray
  kind : Int
  at_ : Int
  size : Int

def strCells (x : Str) : List Value := [.int .i64 x.mod, .string x.im, .string x.obj, .string x.sec, .int .i64 x.kind, .int .i64 x.at_, .int .i64 x.size]
def strsCells (l : List Str) : List Value := l.flatMap strCells
theorem strsCells_length (l : List Str) : (strsCells l).length = l.length * 7 := by
  induction l with
  | nil => rfl
  | cons x l ih => simp [strsCells, strCells] at ih ⊢; omega
theorem strs_get (l : List Str) : ∀ (i : Nat) (hi : i < l.length) (j : Nat), j < 7 → (strsCells l)[i * 7 + j]? = (strCells l[i])[j]? := by
  induction l with
  | nil => intro i hi; simp at hi
  | cons x l ih =>
    intro i hi j hj
    cases i with
    | zero => simp only [strsCells, List.flatMap_cons, Nat.zero_mul, Nat.zero_add, List.getElem_cons_zero]; rw [List.getElem?_append_left (by simpa [strCells] using hj)]
    | succ i =>
      have h := ih i (by simpa using hi) j hj
      simp only [strsCells, List.flatMap_cons, List.getElem_cons_succ] at h ⊢
      rw [List.getElem?_append_right (by simp [strCells]; omega), ← h]
      congr 1
      simp [strCells]
      omega
theorem strs_one (l : List Str) : ∀ u ∈ strsCells l, u.oneCell' = true := by
  intro u hu
  obtain ⟨x, _, hx⟩ := List.mem_flatMap.1 hu
  simp [strCells] at hx
  rcases hx with rfl | rfl | rfl | rfl | rfl | rfl | rfl <;> rfl

/-- A slice of strata. -/
def StrAt (w : World) (base : Nat) (v : Value) (l : List Str) : Prop := (v = .slice none 0 0 ∧ l = []) ∨ ∃ g cap, v = .slice (some ⟨g, 0, none⟩) l.length cap ∧ 0 < l.length ∧ w.ownsRow base 125 7 v l.length (strsCells l)

theorem StrAt.below {w w' : World} {base : Nat} {v : Value} {l : List Str} (h : StrAt w base v l) (hb : Below w.heap.size w w') : StrAt w' base v l := by
  rcases h with h | ⟨g, cap, rfl, h1, h2⟩
  · exact .inl h
  · exact .inr ⟨g, cap, rfl, h1, ownsRow_below' h2 hb⟩
theorem StrAt.base {w : World} {base base' : Nat} {v : Value} {l : List Str} (h : StrAt w base v l) (hb : base' ≤ base) : StrAt w base' v l := by
  rcases h with h | ⟨g, cap, rfl, h1, h2⟩
  · exact .inl h
  · exact .inr ⟨g, cap, rfl, h1, ownsRow_base_a h2 hb⟩
theorem StrAt.only {w w' : World} {base : Nat} {S : Nat → Prop} {v : Value} {l : List Str} (h : StrAt w base v l) (ho : Only S w w') (hn : ∀ g, v.ownBlock = some g → ¬ S g) : StrAt w' base v l := by
  rcases h with h | ⟨g, cap, rfl, h1, h2⟩
  · exact .inl h
  · exact .inr ⟨g, cap, rfl, h1, ownsRow_kept h2 ho (hn g rfl)⟩

theorem StrAt.slice {w : World} {base : Nat} {v : Value} {l : List Str} (h : StrAt w base v l) : ∃ vs vn vc, v = .slice vs vn vc := by
  rcases h with ⟨h, _⟩ | ⟨g, cap, h, _⟩
  · exact ⟨_, _, _, h⟩
  · exact ⟨_, _, _, h⟩

theorem infoc_strata : (Tryz.prog.info? 125).map (fun i => (i.zero, i.size, i.bytes)) = some (some (.agg #[.int .i64 0, .string ⟨#[]⟩, .string ⟨#[]⟩, .string ⟨#[]⟩, .int .i64 0, .int .i64 0, .int .i64 0]), 7, 80) := by kernel_rfl

set_option maxRecDepth 100000 in
theorem clone_strata (g n cap : Nat) (xs : List Value) (w : World) (hc : ∀ j u, xs[j]? = some u → w.cell? ⟨g, j, none⟩ = some u) (hl : xs.length = n * 7) (h1 : ∀ u ∈ xs, u.oneCell' = true) (hn : 0 < n) (hm : n ≤ 2000000) (hg : g < w.heap.size) :
    Calls Tryz.prog 51 #[.slice (some ⟨g, 0, none⟩) n cap] w fun e w' => Below w.heap.size w w' ∧ ∃ g' cap', e = .returned (.slice (some ⟨g', 0, none⟩) n cap') ∧ w'.ownsRow w.heap.size 125 7 (.slice (some ⟨g', 0, none⟩) n cap') n xs := by
  obtain ⟨i0, hi, hz0, hz1, hz2⟩ := info_parts infoc_strata
  have HC := Lib.hid (And.intro hc h1)
  clear hc h1
  have hen := fun (w : World) (a : Option Addr) (l c : Nat) => _root_.Go.run_eql_slice_nil (P := Tryz.prog) w 61 125 a l c Tryz.underlying61
  go_enter Tryz.func51, Tryz.ntmps51
  go_wp2_with (at_builtin; refine wpList_append_lies _ rfl _ _ _ rfl w.heap.size 125 i0 (.agg #[.int .i64 0, .string ⟨#[]⟩, .string ⟨#[]⟩, .string ⟨#[]⟩, .int .i64 0, .int .i64 0, .int .i64 0]) 7 80 Tryz.underlying61 hi hz0 hz1 hz2 rfl (by omega) _ 0 [] rfl ?c0 ⟨g, 0, none⟩ n cap xs rfl (by omega) ?c1 HC.out.2 (by omega) ?c3 ?c4 ?c5 (w.heap.size + 1) (by simp) ?_)
  case c0 => exact ⟨rfl, .inr ⟨w.heap.size, 0, #[], rfl, Nat.le_refl _, heap_alloc_new w _, by decide, by decide, rfl, rfl⟩⟩
  case c1 =>
    intro j u hj
    rw [addr0]
    exact (((Below.refl w.heap.size w).alloc (Nat.le_refl _) _).cell (p := ⟨g, j, none⟩) hg).trans (HC.out.1 j u hj)
  case c3 => unfold maxLen; omega
  case c4 => omega
  case c5 => simp
  intro g1 cap1 w1 hown1 hgrow hat hlt1
  have HG := Lib.hid (And.intro hown1 (And.intro hgrow (And.intro hat hlt1)))
  clear hown1 hgrow hat hlt1
  go_wp2
  go_ret
  obtain ⟨hown1, hgrow, hat, hlt1⟩ := HG.out
  refine ⟨((Below.refl _ _).alloc (Nat.le_refl _) _).grown hgrow (by simp) (fun k hk => by simp [Value.ownBlock] at hk; omega), g1, cap1, by simp, by simpa using hown1⟩

theorem clone_strs (v : Value) (l : List Str) (w : World) (base : Nat) (h : StrAt w base v l) (hm : l.length ≤ 1000) :
    Calls Tryz.prog 51 #[v] w fun e w' => Below w.heap.size w w' ∧ ∃ v', e = .returned v' ∧ StrAt w' w.heap.size v' l := by
  rcases h with ⟨rfl, rfl⟩ | ⟨g, cap, rfl, h1, h2⟩
  · refine (clone_strata_nil w).mono ?_
    rintro e w' ⟨rfl, rfl⟩
    exact ⟨Below.refl _ _, _, rfl, .inl ⟨rfl, rfl⟩⟩
  · refine (clone_strata g l.length cap (strsCells l) w (fun j u hj => (row_cell h2 j hj).1) (strsCells_length l) (strs_one l) h1 (by omega) (ownsRow_lt h2).2.1).mono ?_
    rintro e w' ⟨hb, g', cap', rfl, hown⟩
    exact ⟨hb, _, rfl, .inr ⟨g', cap', rfl, h1, hown⟩⟩

set_option maxRecDepth 100000 in
theorem hstrata (p s b l : Nat) (th sv : Value) (ls : List Str) (w : World) (hp : w.heap[p]? = some (.cells (procS s b l th sv).toArray 81 (0, 0))) (hs : StrAt w 0 sv ls) (hm : ls.length ≤ 1000) :
    Calls Tryz.prog 89 #[.pointer (some ⟨p, 0, none⟩)] w fun e w' => Below w.heap.size w w' ∧ ∃ v', e = .returned v' ∧ StrAt w' w.heap.size v' ls := by
  have lp := lt_of_block hp
  unfold procS at hp
  have c5 := cell_l hp 5 rfl
  have HS := Lib.hid hs
  clear hp hs
  go_enter Tryz.func89, Tryz.ntmps89
  go_wp2_with (go_at_call 51; refine (clone_strs sv ls _ 0 HS.out hm).mono ?_; rintro e w1 ⟨hb1, v', rfl, h1⟩; have H1 := Lib.hid (And.intro hb1 h1); clear hb1 h1)
  go_ret
  exact ⟨H1.out.1, v', rfl, H1.out.2⟩

set_option maxRecDepth 100000 in
theorem hset (p s b l base : Nat) (th sv nv : Value) (ls : List Str) (w : World) (hp : w.heap[p]? = some (.cells (procS s b l th sv).toArray 81 (0, 0))) (hs : StrAt w base nv ls) (hm : ls.length ≤ 1000) :
    Calls Tryz.prog 39 #[.pointer (some ⟨p, 0, none⟩), nv] w fun e w' => e = .returned (.tuple #[]) ∧ Only (· = p) w w' ∧ ∃ sv', w'.heap[p]? = some (.cells (procS s b l th sv').toArray 81 (0, 0)) ∧ StrAt w' w.heap.size sv' ls := by
  have lp := lt_of_block hp
  have HS := Lib.hid (And.intro hs hp)
  clear hp hs
  go_enter Tryz.func39, Tryz.ntmps39
  go_wp2_with fail
  go_at_call 51
  refine (clone_strs nv ls _ base HS.out.1 hm).mono ?_
  rintro e w1 ⟨hb1, v', rfl, h1⟩
  obtain ⟨vs, vn, vc, rfl⟩ : ∃ vs vn vc, v' = .slice vs vn vc := h1.slice
  have kp := (hb1.block _ lp).trans HS.out.2
  have kp' := kp
  unfold procS at kp'
  have c5 := cell_l kp' 5 rfl
  have f5 := free_in kp' 5
  have lp1 := lt_of_block kp
  have H1 := Lib.hid (And.intro hb1 (And.intro h1 kp))
  clear hb1 h1 kp kp'
  go_wp2
  go_end0
  have ho : Only (· = p) w1 (w1.setCell ⟨p, 5, none⟩ (.slice vs vn vc)) := (Only.refl (· = p) w1).setCell _ _ (.inl rfl)
  refine ⟨rfl, (Only.of_below H1.out.1).trans ho, _, block_set H1.out.2.2 5 _, H1.out.2.1.only ho (fun g hg e => ?_)⟩
  subst e
  rcases H1.out.2.1 with ⟨h, _⟩ | ⟨g', cap, h, _, hrow⟩
  · rw [h] at hg; cases hg
  · rw [h] at hg hrow
    simp [Value.ownBlock] at hg
    subst hg
    have := (ownsRow_lt hrow).1
    omega
end Go.Proofs.YtkbilipgidcgeaaGreatDoor.Tiny

namespace Go.Proofs.YtkbilipgidcgeaaGreatDoor.Tiny
open Go.RowKit Go.ChangeMaps
attribute [local go_sem] ext_cell ext_frozen
attribute [local irreducible] labCells modC threadC

/-- A block is a map. -/
def MapB (w : World) (b : Nat) : Prop := ∃ es c, w.heap[b]? = some (.map es c)

theorem SetAt.mapB {w : World} {b n : Nat} {S : Int → Prop} (h : SetAt w b n S) : MapB w b := by
  obtain ⟨D, ⟨es, c, hb, _⟩, _⟩ := h
  exact ⟨es, c, hb⟩
theorem cells_ne {w : World} {k b : Nat} {cs : Array Value} {t : TypeId} {f : Nat × Nat} (h : w.heap[k]? = some (.cells cs t f)) (hb : MapB w b) : k ≠ b := by
  rintro rfl
  obtain ⟨es, c, hb⟩ := hb
  rw [h] at hb
  cases hb
theorem row_set {w w' : World} {base b : Nat} {e : TypeId} {size g cap n : Nat} {xs : List Value} (h : w.ownsRow base e size (.slice (some ⟨g, 0, none⟩) n cap) n xs) (hb : MapB w b) (ho : Only (· = b) w w') : w'.ownsRow base e size (.slice (some ⟨g, 0, none⟩) n cap) n xs := by
  obtain ⟨_, _, cur, hc⟩ := ownsRow_lt h
  exact ownsRow_kept h ho (cells_ne hc hb)
theorem strs_set {w w' : World} {base b : Nat} {v : Value} {l : List Str} (h : StrAt w base v l) (hb : MapB w b) (ho : Only (· = b) w w') : StrAt w' base v l := by
  rcases h with h | ⟨g, cap, rfl, h1, h2⟩
  · exact .inl h
  · exact .inr ⟨g, cap, rfl, h1, row_set h2 hb ho⟩

/-- The process with its memory and strata. -/
structure Ctx (B : ByteArray) (w : World) (n : PN) (sv : Value) (g cap : Nat) (l : List Str) (ps : List Part) : Prop where
  head : w.heap[n.p]? = some (.cells (procS n.s n.b n.l (.slice (some ⟨n.gt, 0, none⟩) 1 n.ct) sv).toArray 81 (0, 0))
  load : w.heap[n.l]? = some (.cells (loaderC n.s n.b n.st (.slice (some ⟨n.gm, 0, none⟩) 1 n.cm) (.slice (some ⟨n.gq, 0, none⟩) 1 n.cq)).toArray 149 (0, 0))
  mods : w.ownsRow 0 91 32 (.slice (some ⟨n.gm, 0, none⟩) 1 n.cm) 1 (modC B 512 1)
  thread : w.ownsRow 0 100 23 (.slice (some ⟨n.gt, 0, none⟩) 1 n.ct) 1 (threadC 2304 (.slice (some ⟨n.gc, 0, none⟩) 1 n.cc))
  calls : w.ownsRow 0 3 1 (.slice (some ⟨n.gc, 0, none⟩) 1 n.cc) 1 [.int .i64 512]
  space : SpaceAt w n.s (.slice (some ⟨g, 0, none⟩) ps.length cap) ps
  ok : AreasOk ps
  strs : StrAt w 0 sv l
  few : l.length ≤ 1000

theorem Ctx.below {B : ByteArray} {w w' : World} {n : PN} {sv : Value} {g cap : Nat} {l : List Str} {ps : List Part} (h : Ctx B w n sv g cap l ps) (hb : Below w.heap.size w w') : Ctx B w' n sv g cap l ps :=
  ⟨(hb.block _ (lt_of_block h.head)).trans h.head, (hb.block _ (lt_of_block h.load)).trans h.load, ownsRow_below' h.mods hb, ownsRow_below' h.thread hb, ownsRow_below' h.calls hb, h.space.below hb, h.ok, h.strs.below hb, h.few⟩
theorem Ctx.set {B : ByteArray} {w w' : World} {n : PN} {sv : Value} {g cap b : Nat} {l : List Str} {ps : List Part} (h : Ctx B w n sv g cap l ps) (hb : MapB w b) (ho : Only (· = b) w w') : Ctx B w' n sv g cap l ps :=
  ⟨ho.kept h.head (cells_ne h.head hb), ho.kept h.load (cells_ne h.load hb), row_set h.mods hb ho, row_set h.thread hb ho, row_set h.calls hb ho, by
    obtain ⟨es, c, hb'⟩ := hb
    exact h.space.kept ho (fun x hx e => by subst e; exact h.space.notMap hb' hx), h.ok, strs_set h.strs hb ho, h.few⟩

/-- The numbers of a view. -/
structure VN where
  v : Nat
  gm : Nat
  cm : Nat
  ga : Nat
  ca : Nat
  sv : Value

/-- What is known of the process. -/
structure ViewAt (B : ByteArray) (w : World) (x : VN) (p : Nat) (l : List Str) (ps : List Part) : Prop where
  head : w.heap[x.v]? = some (.cells [.pointer (some ⟨p, 0, none⟩), .slice (some ⟨x.gm, 0, none⟩) 1 x.cm, x.sv, .slice (some ⟨x.ga, 0, none⟩) ps.length x.ca].toArray 170 (0, 0))
  mods : w.ownsRow 0 91 32 (.slice (some ⟨x.gm, 0, none⟩) 1 x.cm) 1 (modC B 512 1)
  strs : StrAt w 0 x.sv l
  areas : w.ownsRow 0 105 5 (.slice (some ⟨x.ga, 0, none⟩) ps.length x.ca) ps.length (areasCells ps)

theorem ViewAt.below {B : ByteArray} {w w' : World} {x : VN} {p : Nat} {l : List Str} {ps : List Part} (h : ViewAt B w x p l ps) (hb : Below w.heap.size w w') : ViewAt B w' x p l ps :=
  ⟨(hb.block _ (lt_of_block h.head)).trans h.head, ownsRow_below' h.mods hb, h.strs.below hb, ownsRow_below' h.areas hb⟩
theorem ViewAt.set {B : ByteArray} {w w' : World} {x : VN} {p b : Nat} {l : List Str} {ps : List Part} (h : ViewAt B w x p l ps) (hb : MapB w b) (ho : Only (· = b) w w') : ViewAt B w' x p l ps :=
  ⟨ho.kept h.head (cells_ne h.head hb), row_set h.mods hb ho, strs_set h.strs hb ho, row_set h.areas hb ho⟩

set_option maxRecDepth 100000 in
set_option maxHeartbeats 1000000 in
theorem hof (B : ByteArray) (n : PN) (sv : Value) (g cap : Nat) (l : List Str) (ps : List Part) (w : World) (hC : Ctx B w n sv g cap l ps) (hne : 0 < ps.length) :
    Calls Tryz.prog 43 #[.pointer (some ⟨n.p, 0, none⟩)] w fun e w' => Below w.heap.size w w' ∧ ∃ x : VN, e = .returned (.pointer (some ⟨x.v, 0, none⟩)) ∧ ViewAt B w' x n.p l ps := by
  have HC := Lib.hid hC
  clear hC
  go_enter Tryz.func43, Tryz.ntmps43
  go_wp2_with fail
  go_at_call 32
  refine (hmods B n.p n.s n.b n.l n.st n.gm n.cm n.s n.b _ _ _ _ HC.out.head HC.out.load HC.out.mods).mono ?_
  rintro e w1 ⟨hb1, gm, cm, rfl, hm1⟩
  have k1 := HC.out.below hb1
  have H1 := Lib.hid (And.intro hb1 (And.intro hm1 k1))
  clear hb1 hm1 k1
  go_wp2_with fail
  go_at_call 89
  refine (hstrata n.p n.s n.b n.l _ sv l _ H1.out.2.2.head H1.out.2.2.strs H1.out.2.2.few).mono ?_
  rintro e w2 ⟨hb2, v2, rfl, hs2⟩
  obtain ⟨vs, vn, vc, rfl⟩ := hs2.slice
  have l1 := H1.out.1.size
  have H2 := Lib.hid (And.intro (H1.out.1.trans (hb2.mono l1)) (And.intro (ownsRow_below' H1.out.2.1 hb2) (And.intro (H1.out.2.2.below hb2) hs2)))
  have l2 := hb2.size
  clear hb2 hs2
  go_wp2_with fail
  go_at_call 9
  refine (hspace n.p n.s n.b n.l _ sv _ H2.out.2.2.1.head).mono ?_
  rintro e w3 ⟨rfl, rfl⟩
  go_wp2_with fail
  go_at_call 52
  refine (areas_row n.s g cap ps _ H2.out.2.2.1.ok.few H2.out.2.2.1.space).mono ?_
  rintro e w4 ⟨hb4, av, rfl, ha4⟩
  obtain ⟨ga, ca, rfl⟩ : ∃ ga ca, av = .slice (some ⟨ga, 0, none⟩) ps.length ca := by
    rcases ha4.2 with ⟨_, h⟩ | ⟨ga, ca, _, h, _⟩
    · omega
    · exact ⟨ga, ca, h⟩
  have l4 := hb4.size
  have H4 := Lib.hid (And.intro (H2.out.1.trans (hb4.mono (by omega))) (And.intro (ownsRow_below' H2.out.2.1 hb4) (And.intro (H2.out.2.2.2.below hb4) ha4)))
  clear hb4 ha4
  go_wp2
  go_ret
  have ba : ∀ o, Below w4.heap.size w4 (w4.alloc o) := fun o => (Below.refl _ _).alloc (Nat.le_refl _) _
  refine ⟨H4.out.1.trans ((ba _).mono (by omega)), ⟨w4.heap.size, gm, cm, ga, ca, .slice vs vn vc⟩, rfl, heap_alloc_new _ _, ?_, ?_, ?_⟩
  · exact ownsRow_base_a (ownsRow_below' H4.out.2.1 (ba _)) (Nat.zero_le _)
  · exact (H4.out.2.2.1.below (ba _)).base (Nat.zero_le _)
  · exact ownsRow_base_a (ownsRow_below' H4.out.2.2.2 (ba _)) (Nat.zero_le _)

theorem modC_get30 (B : ByteArray) (x y : Int) : (modC B x y)[(30 : Nat)]? = some (.bool false) := by unfold modC labCells; rfl

set_option maxRecDepth 100000 in
set_option maxHeartbeats 1000000 in
theorem vmapped (B : ByteArray) (x : VN) (p : Nat) (l : List Str) (ps : List Part) (m : Int) (w : World) (hV : ViewAt B w x p l ps) :
    Calls Tryz.prog 82 #[.pointer (some ⟨x.v, 0, none⟩), .int .i64 m] w fun e w' => e = .returned (.bool (decide (m = 0))) ∧ w' = w := by
  have c1 := cell_l hV.head 1 rfl
  have d := (row_cell hV.mods 26 (modC_get26 B 512 1)).1
  clear hV
  by_cases h0 : 0 ≤ m
  · by_cases h1 : m < 1
    · obtain rfl : m = 0 := by omega
      go_enter Tryz.func82, Tryz.ntmps82
      go_wp2
      go_ret
      exact ⟨rfl, rfl⟩
    · have e : decide (m = 0) = false := by simp; omega
      rw [e]
      go_enter Tryz.func82, Tryz.ntmps82
      go_wp2
      go_ret
      exact ⟨rfl, rfl⟩
  · have e : decide (m = 0) = false := by simp; omega
    rw [e]
    go_enter Tryz.func82, Tryz.ntmps82
    go_wp2
    go_ret
    exact ⟨rfl, rfl⟩

set_option maxRecDepth 100000 in
set_option maxHeartbeats 1000000 in
theorem vclosed (B : ByteArray) (x : VN) (p : Nat) (l : List Str) (ps : List Part) (m : Int) (w : World) (hV : ViewAt B w x p l ps) :
    Calls Tryz.prog 83 #[.pointer (some ⟨x.v, 0, none⟩), .int .i64 m] w fun e w' => e = .returned (.bool false) ∧ w' = w := by
  have HV := Lib.hid hV
  have c1 := cell_l hV.head 1 rfl
  have d := (row_cell hV.mods 30 (modC_get30 B 512 1)).1
  clear hV
  go_enter Tryz.func83, Tryz.ntmps83
  go_wp2_with fail
  go_at_call 82
  refine (vmapped B x p l ps m w HV.out).mono ?_
  rintro e w1 ⟨rfl, rfl⟩
  by_cases h0 : m = 0
  · subst h0
    go_wp2
    go_ret
    exact ⟨rfl, rfl⟩
  · have e : decide (m = 0) = false := by simpa using h0
    rw [e]
    go_wp2
    go_ret
    exact ⟨rfl, rfl⟩
end Go.Proofs.YtkbilipgidcgeaaGreatDoor.Tiny

namespace Go.Proofs.YtkbilipgidcgeaaGreatDoor.Tiny
open Go.RowKit Go.ChangeMaps

theorem and7 (x : Int) (h : x % 8 = 0) : bits .and .i64 (-x) 7 = 0 := by
  show IntKind.i64.wrap ((BitVec.ofInt 64 (-x) &&& BitVec.ofInt 64 7).toNat : Int) = 0
  rw [BitVec.toNat_and, show (BitVec.ofInt 64 7).toNat = 2 ^ 3 - 1 from rfl, Nat.and_two_pow_sub_one_eq_mod, BitVec.toNat_ofInt]
  have : ((-x) % ((2 ^ 64 : Nat) : Int)).toNat % 2 ^ 3 = 0 := by omega
  rw [this]
  rfl

/-- The words of a span in a part: their addresses and bytes. -/
def hitL (p : Part) (a n : Int) : List (Int × List UInt8) :=
  (List.range ((min (a + n) (p.at_ + p.size) - max a p.at_) / 8).toNat).map fun (i : Nat) => (max a p.at_ + 8 * (i : Int), readL p (max a p.at_ + 8 * (i : Int)) 8)
def hitsL (ps : List Part) (a n : Int) : List (Int × List UInt8) := ps.flatMap fun p => hitL p a n
theorem hitL_length (p : Part) (a n : Int) : (hitL p a n).length = ((min (a + n) (p.at_ + p.size) - max a p.at_) / 8).toNat := by simp [hitL]
theorem hits_take (ps : List Part) (a n : Int) (k : Nat) (h : k < ps.length) : (hitsL (ps.take (k + 1)) a n).length = (hitsL (ps.take k) a n).length + (hitL ps[k] a n).length := by
  unfold hitsL
  rw [List.take_succ_eq_append_getElem h, List.flatMap_append, List.length_append]
  simp
theorem hits_get (ps : List Part) (a n : Int) (k i : Nat) (h : k < ps.length) (hi : i < (hitL ps[k] a n).length) : (hitsL ps a n)[(hitsL (ps.take k) a n).length + i]? = some ((hitL ps[k] a n)[i]) := by
  have e : ps = ps.take k ++ ps[k] :: ps.drop (k + 1) := by rw [← List.drop_eq_getElem_cons h, List.take_append_drop]
  have e2 : hitsL ps a n = hitsL (ps.take k) a n ++ (hitL ps[k] a n ++ hitsL (ps.drop (k + 1)) a n) := by
    conv => lhs; rw [e]
    unfold hitsL
    rw [List.flatMap_append, List.flatMap_cons]
  rw [e2, List.getElem?_append_right (by omega), Nat.add_sub_cancel_left, List.getElem?_append_left hi, List.getElem?_eq_getElem hi]
theorem hits_lt (ps : List Part) (a n : Int) (k i : Nat) (h : k < ps.length) (hi : i < (hitL ps[k] a n).length) : (hitsL (ps.take k) a n).length + i < (hitsL ps a n).length := by
  have := hits_get ps a n k i h hi
  exact (List.getElem?_eq_some_iff.1 this).1

theorem area_get (ps : List Part) : ∀ (i : Nat) (hi : i < ps.length) (j : Nat), j < 5 → (areasCells ps)[i * 5 + j]? = (areaCells ps[i])[j]? := by
  induction ps with
  | nil => intro i hi; simp at hi
  | cons x l ih =>
    intro i hi j hj
    cases i with
    | zero => simp only [areasCells, List.flatMap_cons, Nat.zero_mul, Nat.zero_add, List.getElem_cons_zero]; rw [List.getElem?_append_left (by simpa [areaCells] using hj)]
    | succ i =>
      have h := ih i (by simpa using hi) j hj
      simp only [areasCells, List.flatMap_cons, List.getElem_cons_succ] at h ⊢
      rw [List.getElem?_append_right (by simp [areaCells]; omega), ← h]
      congr 1
      simp [areaCells]
      omega
theorem area_range {w : World} {base g cap : Nat} {ps : List Part} (h : w.ownsRow base 105 5 (.slice (some ⟨g, 0, none⟩) ps.length cap) ps.length (areasCells ps)) (k : Nat) (hk : k < ps.length) : w.rangeAt g (k * 5) (areaCells ps[k]) := by
  intro j v hv
  have hj : j < 5 := (List.getElem?_eq_some_iff.1 hv).1
  exact (row_cell h (k * 5 + j) ((area_get ps k hk j hj).trans hv)).1
theorem area_len (p : Part) : (Tryz.prog.info? 105).map (·.size) = some (areaCells p).length := by kernel_rfl

/-- Eight bytes of what was read. -/
theorem word_extract (p : Part) (lo m : Int) (i : Nat) (h0 : p.at_ ≤ lo) (h1 : 8 * (i : Int) + 8 ≤ m) : (⟨(readL p lo m).toArray⟩ : ByteArray).extract (8 * i) (8 * i + 8) = ⟨(readL p (lo + 8 * (i : Int)) 8).toArray⟩ := by
  apply ByteArray.ext
  simp only [ByteArray.data_extract, readL]
  rw [List.extract_toArray]
  congr 1
  rw [List.extract_eq_take_drop, List.drop_take, List.drop_drop, List.take_take]
  have e1 : (lo - p.at_).toNat + 8 * i = (lo + 8 * (i : Int) - p.at_).toNat := by omega
  rw [e1]
  congr 1
  omega

/-- The blocks of spans and areas stay. -/
def KeepsT (w w' : World) : Prop := w.heap.size ≤ w'.heap.size ∧ ∀ (b : Nat) (cs : Array Value) (t : TypeId) (fr : Nat × Nat), w.heap[b]? = some (Obj.cells cs t fr) → t = 49 ∨ t = 105 → w'.heap[b]? = some (Obj.cells cs t fr)
end Go.Proofs.YtkbilipgidcgeaaGreatDoor.Tiny

namespace Go.Proofs.YtkbilipgidcgeaaGreatDoor.Tiny
open Go.RowKit Go.ChangeMaps
attribute [local go_sem] ext_cell ext_frozen
attribute [local irreducible] labCells modC threadC

set_option maxRecDepth 100000 in
set_option maxHeartbeats 4000000 in
theorem each_words (B : ByteArray) (n : PN) (sv : Value) (g cap q0 q1 q2 : Nat) (l : List Str) (ps : List Part) (x : VN) (ad m : Int) (Inv : Nat → World → Prop) (w : World) (h0 : 0 ≤ ad) (h1 : ad % 8 = 0) (h2 : 0 < m) (h3 : ad + m ≤ 1000000) (hps : ∀ p ∈ ps, p.at_ + p.size ≤ 1000000) (hfew : ps.length ≤ 1000)
    (hview : ∀ k W, Inv k W → ViewAt B W x n.p l ps ∧ Ctx B W n sv g cap l ps) (hbelow : ∀ k W W', Inv k W → Below W.heap.size W W' → Inv k W') (hinv : Inv 0 w)
    (hstep : ∀ k (hk : k < (hitsL ps ad m).length) W, Inv k W → Calls Tryz.prog 268 #[.int .i64 ((hitsL ps ad m)[k]).1, .string ⟨((hitsL ps ad m)[k]).2.toArray⟩, .pointer (some ⟨q0, 0, none⟩), .pointer (some ⟨q1, 0, none⟩), .pointer (some ⟨q2, 0, none⟩)] W fun e w' => e = .returned (.tuple #[]) ∧ Inv (k + 1) w' ∧ KeepsT W w') :
    Calls Tryz.prog 90 #[.pointer (some ⟨x.v, 0, none⟩), .agg #[.int .i64 ad, .int .i64 m], .func (.func 268) #[] #[.pointer (some ⟨q0, 0, none⟩), .pointer (some ⟨q1, 0, none⟩), .pointer (some ⟨q2, 0, none⟩)]] w fun e w' => e = .returned (.tuple #[]) ∧ Inv (hitsL ps ad m).length w' := by
  have HI := Lib.hid (And.intro hview (And.intro hbelow (And.intro hstep (And.intro hps hinv))))
  have HV0 := Lib.hid (hview 0 w hinv)
  clear hview hbelow hstep hinv hps
  go_enter Tryz.func90, Tryz.ntmps90
  have g1 : ¬ m ≤ 0 := by omega
  have g2 : ¬ (1099511627776 : Int) < ad := by omega
  have g3 : m ≤ 2199023255552 := by omega
  have gm : min m 2199023255552 = m := by omega
  go_upto_region 4 with fail
  refine name_world fun W hW => ?_
  have wB : Below w.heap.size w W := by rw [← hW]; go_grown
  have ws : W.heap[w.heap.size]? = some (.cells [.int .i64 ad, .int .i64 m].toArray 49 (0, 0)) := by rw [← hW]; first | exact heap_alloc_new _ _ | exact block_set (heap_alloc_new _ _) 1 (.int .i64 m)
  have wV := HV0.out.1.below wB
  have c3 := cell_l wV.head 3 rfl
  have HW := Lib.hid (And.intro (HI.out.2.1 0 w W HI.out.2.2.2.2 wB) ws)
  clear hW wB ws wV
  go_wp2
  clear c3
  go_loopw [7, 8, 9, 10, 11, 12, 33] (fun _ _ _ _ _ _ i wr => ∃ k : Nat, k ≤ ps.length ∧ i = .int .i64 k ∧ Inv ((hitsL (ps.take k) ad m).length) wr ∧ wr.heap[w.heap.size]? = some (.cells [.int .i64 ad, .int .i64 m].toArray 49 (0, 0))) (fun _ _ _ _ _ _ i _ => ps.length - (vI i).toNat)
  case atStart => exact ⟨0, Nat.zero_le _, rfl, HW.out.1, HW.out.2⟩
  case round =>
    obtain ⟨k, hk, rfl, hi, hs⟩ := hrel
    by_cases hlt : k < ps.length
    · obtain ⟨hV, hC⟩ := HI.out.1 _ _ hi
      have hp := hC.ok.each _ (List.getElem_mem hlt)
      have hpe := HI.out.2.2.2.1 _ (List.getElem_mem hlt)
      have hla : ∀ j (hj : j < ps.length), k < j → ps[k].at_ + ps[k].size ≤ ps[j].at_ := fun j hj hkj => hC.ok.apart k j hlt hj hkj
      obtain ⟨q, hq⟩ : ∃ q, q = ps[k] := ⟨_, rfl⟩
      have hrg := area_range hV.areas k hlt
      have htk := hits_take ps ad m k hlt
      rw [← hq] at hp hpe hla hrg htk
      obtain ⟨p0, p1, p2, p3, p4⟩ := hp
      have HR := Lib.hid (And.intro hi (And.intro hs (And.intro hla (And.intro htk hq))))
      have hsl := lt_of_block hs
      clear hi hs hV hC hla htk hq
      unfold areaCells at hrg
      have HG := Lib.hid hrg
      clear hrg
      go_upto_region 7 with (first
        | (refine wpList_load_mid rfl 105 (.tmp 35) rfl x.ga (k * 5) rfl [.int .i64 q.at_, .int .i64 q.size, .int .i64 q.kind, .int .i64 q.owner, .int .i64 q.mod] _ HG.out Tryz.underlying105 rfl (by kernel_rfl) ?_)
        | ((with_reducible refine at_store_law ?_); refine wpList_store_row rfl _ _ _ rfl _ _ rfl rfl _ _ (by (repeat (first | assumption | exact heap_alloc_new _ _ | refine block_old ?_ | refine block_drew ?_ | apply setRow_heap | (refine (setRow_other _ _ _ _ ?_).trans ?_; omega)))) (by kernel_rfl) (by rfl) (by simp [Value.oneCell']) ?_; (try simp only [World.setRow_alloc_new])))
      refine name_world fun X hX => ?_
      have xB : Below wr.heap.size wr X := by rw [← hX]; go_grown
      have xa : X.heap[wr.heap.size]? = some (.cells [.int .i64 q.at_, .int .i64 q.size, .int .i64 q.kind, .int .i64 q.owner, .int .i64 q.mod].toArray 105 (0, 0)) := by rw [← hX]; exact heap_alloc_new _ _
      have xs := (xB.block _ hsl).trans HR.out.2.1
      have w1e : IntKind.i64.wrap (ad + m) = ad + m := IntWalk.i64_in _ (by omega)
      have w2e : IntKind.i64.wrap (q.at_ + q.size) = q.at_ + q.size := IntWalk.i64_in _ (by omega)
      have HX := Lib.hid (And.intro (HI.out.2.1 _ _ _ HR.out.1 xB) xs)
      clear hX xB
      refine wp_region_facts [.val (.pointer (some ⟨w.heap.size, 0, none⟩)), .val (.int .i64 ad), .val (.pointer (some ⟨wr.heap.size, 0, none⟩)), .val (.int .i64 q.at_), .val (.int .i64 (max ad q.at_)), .val (.pointer (some ⟨w.heap.size, 0, none⟩)), .val (.int .i64 ad), .val (.pointer (some ⟨w.heap.size, 1, none⟩)), .val (.int .i64 m), .val (.int .i64 (ad + m)), .val (.pointer (some ⟨wr.heap.size, 0, none⟩)), .val (.int .i64 q.at_), .val (.pointer (some ⟨wr.heap.size, 1, none⟩)), .val (.int .i64 q.size), .val (.int .i64 (q.at_ + q.size)), .val (.int .i64 (min (ad + m) (q.at_ + q.size))), .val (.int .i64 (max ad q.at_)), .val (.int .i64 (min (ad + m) (q.at_ + q.size)))] (by kernel_rfl) (by kernel_rfl) ?_ ?_
      · simp only [stepsAll, List.take, List.length]
        refine ⟨?_, ?_, ?_, ?_, ?_, ?_, ?_, ?_, ?_, ?_, ?_, ?_, ?_, ?_, ?_, ?_, ?_, ?_, ?_⟩
        all_goals first | trivial | (intro a wz hb hf hd)
        all_goals have hf4 : a.tmps[(4 : Nat)]?.getD undef = .pointer (some ⟨w.heap.size, 0, none⟩) := (hf 4 (by decide +kernel)).trans rfl
        all_goals have hf7 : a.tmps[(7 : Nat)]?.getD undef = .pointer (some ⟨wr.heap.size, 0, none⟩) := (hf 7 (by decide +kernel)).trans rfl
        · exact grow_value (v := .pointer (some ⟨w.heap.size, 0, none⟩)) (by simp [execOp, hf4, go_sem]) (Below.refl _ _) ⟨rfl, fun h => by cases h⟩
        · have h37 : a.tmps[(37 : Nat)]?.getD undef = .pointer (some ⟨w.heap.size, 0, none⟩) := hd 0 (by simp) (by kernel_rfl)
          have hc := cell_l ((hb.block _ (lt_of_block xs)).trans xs) 0 (rfl)
          exact grow_value (v := .int .i64 ad) (by simp [execOp, h37, hc, go_sem]) (Below.refl _ _) ⟨rfl, fun h => by cases h⟩
        · exact grow_value (v := .pointer (some ⟨wr.heap.size, 0, none⟩)) (by simp [execOp, hf7, go_sem]) (Below.refl _ _) ⟨rfl, fun h => by cases h⟩
        · have h39 : a.tmps[(39 : Nat)]?.getD undef = .pointer (some ⟨wr.heap.size, 0, none⟩) := hd 2 (by simp) (by kernel_rfl)
          have hc := cell_l ((hb.block _ (lt_of_block xa)).trans xa) 0 (rfl)
          exact grow_value (v := .int .i64 q.at_) (by simp [execOp, h39, hc, go_sem]) (Below.refl _ _) ⟨rfl, fun h => by cases h⟩
        · have h38 : a.tmps[(38 : Nat)]?.getD undef = .int .i64 ad := hd 1 (by simp) (by kernel_rfl)
          have h40 : a.tmps[(40 : Nat)]?.getD undef = .int .i64 q.at_ := hd 3 (by simp) (by kernel_rfl)
          exact grow_value (v := .int .i64 (max ad q.at_)) (by simp [execOp, h38, h40, go_sem]) (Below.refl _ _) ⟨rfl, fun h => by cases h⟩
        · exact grow_value (v := .pointer (some ⟨w.heap.size, 0, none⟩)) (by simp [execOp, hf4, go_sem]) (Below.refl _ _) ⟨rfl, fun h => by cases h⟩
        · have h42 : a.tmps[(42 : Nat)]?.getD undef = .pointer (some ⟨w.heap.size, 0, none⟩) := hd 5 (by simp) (by kernel_rfl)
          have hc := cell_l ((hb.block _ (lt_of_block xs)).trans xs) 0 (rfl)
          exact grow_value (v := .int .i64 ad) (by simp [execOp, h42, hc, go_sem]) (Below.refl _ _) ⟨rfl, fun h => by cases h⟩
        · exact grow_value (v := .pointer (some ⟨w.heap.size, 1, none⟩)) (by simp [execOp, hf4, go_sem]) (Below.refl _ _) ⟨rfl, fun h => by cases h⟩
        · have h44 : a.tmps[(44 : Nat)]?.getD undef = .pointer (some ⟨w.heap.size, 1, none⟩) := hd 7 (by simp) (by kernel_rfl)
          have hc := cell_l ((hb.block _ (lt_of_block xs)).trans xs) 1 (rfl)
          exact grow_value (v := .int .i64 m) (by simp [execOp, h44, hc, go_sem]) (Below.refl _ _) ⟨rfl, fun h => by cases h⟩
        · have h43 : a.tmps[(43 : Nat)]?.getD undef = .int .i64 ad := hd 6 (by simp) (by kernel_rfl)
          have h45 : a.tmps[(45 : Nat)]?.getD undef = .int .i64 m := hd 8 (by simp) (by kernel_rfl)
          exact grow_value (v := .int .i64 (ad + m)) (by simp [execOp, h43, h45, go_sem, w1e]) (Below.refl _ _) ⟨rfl, fun h => by cases h⟩
        · exact grow_value (v := .pointer (some ⟨wr.heap.size, 0, none⟩)) (by simp [execOp, hf7, go_sem]) (Below.refl _ _) ⟨rfl, fun h => by cases h⟩
        · have h47 : a.tmps[(47 : Nat)]?.getD undef = .pointer (some ⟨wr.heap.size, 0, none⟩) := hd 10 (by simp) (by kernel_rfl)
          have hc := cell_l ((hb.block _ (lt_of_block xa)).trans xa) 0 (rfl)
          exact grow_value (v := .int .i64 q.at_) (by simp [execOp, h47, hc, go_sem]) (Below.refl _ _) ⟨rfl, fun h => by cases h⟩
        · exact grow_value (v := .pointer (some ⟨wr.heap.size, 1, none⟩)) (by simp [execOp, hf7, go_sem]) (Below.refl _ _) ⟨rfl, fun h => by cases h⟩
        · have h49 : a.tmps[(49 : Nat)]?.getD undef = .pointer (some ⟨wr.heap.size, 1, none⟩) := hd 12 (by simp) (by kernel_rfl)
          have hc := cell_l ((hb.block _ (lt_of_block xa)).trans xa) 1 (rfl)
          exact grow_value (v := .int .i64 q.size) (by simp [execOp, h49, hc, go_sem]) (Below.refl _ _) ⟨rfl, fun h => by cases h⟩
        · have h48 : a.tmps[(48 : Nat)]?.getD undef = .int .i64 q.at_ := hd 11 (by simp) (by kernel_rfl)
          have h50 : a.tmps[(50 : Nat)]?.getD undef = .int .i64 q.size := hd 13 (by simp) (by kernel_rfl)
          exact grow_value (v := .int .i64 (q.at_ + q.size)) (by simp [execOp, h48, h50, go_sem, w2e]) (Below.refl _ _) ⟨rfl, fun h => by cases h⟩
        · have h46 : a.tmps[(46 : Nat)]?.getD undef = .int .i64 (ad + m) := hd 9 (by simp) (by kernel_rfl)
          have h51 : a.tmps[(51 : Nat)]?.getD undef = .int .i64 (q.at_ + q.size) := hd 14 (by simp) (by kernel_rfl)
          exact grow_value (v := .int .i64 (min (ad + m) (q.at_ + q.size))) (by simp [execOp, h46, h51, go_sem]) (Below.refl _ _) ⟨rfl, fun h => by cases h⟩
        · have h41 : a.tmps[(41 : Nat)]?.getD undef = .int .i64 (max ad q.at_) := hd 4 (by simp) (by kernel_rfl)
          exact grow_value (v := .int .i64 (max ad q.at_)) (by simp [execOp, h41, go_sem]) (Below.refl _ _) ⟨rfl, fun h => by cases h⟩
        · have h52 : a.tmps[(52 : Nat)]?.getD undef = .int .i64 (min (ad + m) (q.at_ + q.size)) := hd 15 (by simp) (by kernel_rfl)
          exact grow_value (v := .int .i64 (min (ad + m) (q.at_ + q.size))) (by simp [execOp, h52, go_sem]) (Below.refl _ _) ⟨rfl, fun h => by cases h⟩
      · intro fv w2 hb2 hs hn hne
        have g37 : fv 37 = .pointer (some ⟨w.heap.size, 0, none⟩) := hs 0 (by simp)
        have g38 : fv 38 = .int .i64 ad := hs 1 (by simp)
        have g39 : fv 39 = .pointer (some ⟨wr.heap.size, 0, none⟩) := hs 2 (by simp)
        have g40 : fv 40 = .int .i64 q.at_ := hs 3 (by simp)
        have g41 : fv 41 = .int .i64 (max ad q.at_) := hs 4 (by simp)
        have g42 : fv 42 = .pointer (some ⟨w.heap.size, 0, none⟩) := hs 5 (by simp)
        have g43 : fv 43 = .int .i64 ad := hs 6 (by simp)
        have g44 : fv 44 = .pointer (some ⟨w.heap.size, 1, none⟩) := hs 7 (by simp)
        have g45 : fv 45 = .int .i64 m := hs 8 (by simp)
        have g46 : fv 46 = .int .i64 (ad + m) := hs 9 (by simp)
        have g47 : fv 47 = .pointer (some ⟨wr.heap.size, 0, none⟩) := hs 10 (by simp)
        have g48 : fv 48 = .int .i64 q.at_ := hs 11 (by simp)
        have g49 : fv 49 = .pointer (some ⟨wr.heap.size, 1, none⟩) := hs 12 (by simp)
        have g50 : fv 50 = .int .i64 q.size := hs 13 (by simp)
        have g51 : fv 51 = .int .i64 (q.at_ + q.size) := hs 14 (by simp)
        have g52 : fv 52 = .int .i64 (min (ad + m) (q.at_ + q.size)) := hs 15 (by simp)
        have g8 : fv 8 = .int .i64 (max ad q.at_) := hs 16 (by simp)
        have g9 : fv 9 = .int .i64 (min (ad + m) (q.at_ + q.size)) := hs 17 (by simp)
        rw [show (List.range (List.length _)).map (dstOf _) = [37, 38, 39, 40, 41, 42, 43, 44, 45, 46, 47, 48, 49, 50, 51, 52, 8, 9] from by kernel_rfl]
        simp only [actOf, List.foldl, Act.put, List.drop, List.length, g37, g38, g39, g40, g41, g42, g43, g44, g45, g46, g47, g48, g49, g50, g51, g52, g8, g9, List.setIfInBounds_toArray, List.set_cons_zero, List.set_cons_succ]
        clear hs hn hne g37 g38 g39 g40 g41 g42 g43 g44 g45 g46 g47 g48 g49 g50 g51 g52 g8 g9
        have zs := (hb2.block _ (lt_of_block xs)).trans xs
        have HZ := Lib.hid (And.intro (HI.out.2.1 _ _ _ HX.out.1 hb2) zs)
        have lz : w.heap.size < w2.heap.size := lt_of_block zs
        obtain ⟨lo, hlo⟩ : ∃ lo, lo = max ad q.at_ := ⟨_, rfl⟩
        obtain ⟨hi, hhi⟩ : ∃ hi, hi = min (ad + m) (q.at_ + q.size) := ⟨_, rfl⟩
        rw [← hlo, ← hhi]
        have hcnt : (hitL q ad m).length = ((hi - lo) / 8).toNat := by rw [hitL_length, ← hlo, ← hhi]
        have b1 : 0 ≤ lo ∧ lo ≤ 2000000 ∧ lo % 8 = 0 ∧ q.at_ ≤ lo := by omega
        have b2 : 0 ≤ hi ∧ hi ≤ 1000000 ∧ hi ≤ q.at_ + q.size := by omega
        obtain ⟨b10, b11, b12, b13⟩ := b1
        obtain ⟨b20, b21, b22⟩ := b2
        have hneg : IntKind.i64.wrap (-lo) = -lo := IntWalk.i64_in _ (by omega)
        have hand := and7 lo b12
        have hdif : IntKind.i64.wrap (hi - lo) = hi - lo := IntWalk.i64_in _ (by omega)
        have HL := Lib.hid (And.intro hlo (And.intro hhi (And.intro hcnt (And.intro hdif b12))))
        clear hb2 xs xa zs hlo hhi hcnt w1e w2e b12 hdif HX
        go_upto_region 9 with fail
        clear hneg hand
        have hdif := HL.out.2.2.2.1
        by_cases hsm : hi - lo < 8
        · go_wp2
          go_roundw
          case rel =>
            refine ⟨k + 1, by omega, by go_num, ?_, HZ.out.2⟩
            rw [HR.out.2.2.2.1, HL.out.2.2.1]
            have : ((hi - lo) / 8).toNat = 0 := by omega
            rw [this]
            exact HZ.out.1
          case measure => simp [vI]; omega
        · obtain ⟨c, hc⟩ : ∃ c : Nat, (c : Int) = (hi - lo) / 8 := ⟨((hi - lo) / 8).toNat, by omega⟩
          have hquo : Int.tdiv (hi - lo) 8 = (c : Int) := by rw [Int.tdiv_eq_ediv_of_nonneg (by omega)]; exact hc.symm
          have hc1 : 8 * (c : Int) ≤ hi - lo := by omega
          have hmul : IntKind.i64.wrap ((c : Int) * 8) = (c : Int) * 8 := IntWalk.i64_in _ (by omega)
          have hquw : IntKind.i64.wrap (c : Int) = (c : Int) := IntWalk.i64_in _ (by omega)
          have HCc := Lib.hid hc
          clear hc
          obtain ⟨hV, hC⟩ := HI.out.1 _ _ HZ.out.1
          have c0 := cell_l hV.head 0 rfl
          have HC := Lib.hid hC
          clear hV hC
          go_wp2_with fail
          go_at_call 9
          refine (hspace n.p n.s n.b n.l _ sv _ HC.out.head).mono ?_
          rintro e w3 ⟨rfl, rfl⟩
          clear c0
          go_wp2_with fail
          go_at_call 11
          have hqk := HR.out.2.2.2.2
          have hla : LastAt ps lo k := ⟨hlt, by rw [← hqk]; exact b13, fun j hj hkj => Int.lt_of_lt_of_le (show lo < q.at_ + q.size by omega) (HR.out.2.2.1 j hj hkj)⟩
          refine (read_some n.s g cap ps lo ((c : Int) * 8) w3 HC.out.ok HC.out.space k hla q hqk (by omega) (by have := HCc.out; omega)).mono ?_
          rintro e w4 ⟨hb4, rfl⟩
          have hRl : (readL q lo ((c : Int) * 8)).length = 8 * c := by
            obtain ⟨r1, r2, cur, r3, r4, r5⟩ := HC.out.space.bytes.2 q (by rw [hqk]; exact List.getElem_mem hlt)
            simp [readL]; omega
          obtain ⟨R, hR⟩ : ∃ R, R = (⟨(readL q lo ((c : Int) * 8)).toArray⟩ : ByteArray) := ⟨_, rfl⟩
          have hRs : R.size = 8 * c := by rw [hR]; simpa [ByteArray.size] using hRl
          have hRx : ∀ j : Nat, j < c → R.extract (8 * j) (8 * j + 8) = ⟨(readL q (lo + 8 * (j : Int)) 8).toArray⟩ := fun j hj => by rw [hR]; exact word_extract q lo _ j b13 (by omega)
          rw [← hR]
          have z4 := (hb4.block _ (lt_of_block HZ.out.2)).trans HZ.out.2
          have H4 := Lib.hid (And.intro (HI.out.2.1 _ _ _ HZ.out.1 hb4) (And.intro z4 (And.intro hRx hRs)))
          have l4 : w.heap.size < w4.heap.size := lt_of_block z4
          clear hb4 z4 hRx hRs hR hRl hla hquo hmul hquw hdif hqk
          go_wp2_with fail
          go_loopw [12] (fun i wq => ∃ j : Nat, j ≤ c ∧ i = .int .i64 ((8 * j : Nat) : Int) ∧ Inv ((hitsL (ps.take k) ad m).length + j) wq ∧ wq.heap[w.heap.size]? = some (.cells [.int .i64 ad, .int .i64 m].toArray 49 (0, 0))) (fun i _ => 8 * c - (vI i).toNat)
          case atStart => exact ⟨0, Nat.zero_le _, rfl, H4.out.1, H4.out.2.1⟩
          case round =>
            obtain ⟨j, hj, rfl, hij, hsj⟩ := hrel
            have HJ := Lib.hid (And.intro hij hsj)
            clear hij hsj
            have hRs := H4.out.2.2.2
            by_cases hjl : j < c
            · have j1 : ((8 * j : Nat) : Int) < (R.size : Int) := by omega
              have j2 : IntKind.i64.wrap (((8 * j : Nat) : Int) + 8) = ((8 * j : Nat) : Int) + 8 := IntWalk.i64_in _ (by omega)
              have j3 : IntKind.i64.wrap (lo + ((8 * j : Nat) : Int)) = lo + ((8 * j : Nat) : Int) := IntWalk.i64_in _ (by omega)
              have j4 : ((8 * j : Nat) : Int) + 8 ≤ (R.size : Int) := by omega
              go_wp2_with fail
              go_at_call 268
              have hiq : j < (hitL ps[k] ad m).length := by rw [← HR.out.2.2.2.2, HL.out.2.2.1]; have := HCc.out; omega
              have hgt := hits_get ps ad m k j hlt hiq
              have hlt2 := hits_lt ps ad m k j hlt hiq
              rw [List.getElem?_eq_getElem hlt2] at hgt
              have hgt2 := Option.some.inj hgt
              have hel : (hitL ps[k] ad m)[j] = (lo + 8 * (j : Int), readL q (lo + 8 * (j : Int)) 8) := by
                have e := HR.out.2.2.2.2
                have e2 := HL.out.1
                simp only [hitL, List.getElem_map, List.getElem_range, ← e, ← e2]
              rw [hel] at hgt2
              have hst := HI.out.2.2.1 _ hlt2 wr HJ.out.1
              rw [hgt2] at hst
              rw [H4.out.2.2.1 j hjl]
              refine hst.mono ?_
              rintro e w5 ⟨rfl, hi5, hk5⟩
              have H5 := Lib.hid (And.intro hi5 (hk5.2 _ _ _ _ HJ.out.2 (.inl rfl)))
              clear hst hgt hgt2 hel hi5 hk5
              go_wp2
              go_roundw
              case rel => exact ⟨j + 1, by omega, by first | (congr 1; omega) | congr 1, H5.out.1, H5.out.2⟩
              case measure => simp [vI]; omega
            · obtain rfl : j = c := by omega
              have j1 : ¬ ((8 * j : Nat) : Int) < (R.size : Int) := by omega
              go_wp2
              go_roundw
              case rel =>
                refine ⟨k + 1, by omega, by go_num, ?_, HJ.out.2⟩
                rw [HR.out.2.2.2.1, HL.out.2.2.1]
                have := HCc.out
                have e : ((hi - lo) / 8).toNat = j := by omega
                rw [e]
                exact HJ.out.1
              case measure => simp [vI]; omega
    · obtain rfl : k = ps.length := by omega
      have HH := Lib.hid hi
      clear hi hs
      go_wp2
      go_end0
      have h := HH.out
      rw [List.take_length] at h
      exact ⟨rfl, h⟩
end Go.Proofs.YtkbilipgidcgeaaGreatDoor.Tiny
