/- tls: Module, Thread, At at the example. load: New, Put. load: fetch. load: add. load: collect. load: areas. -/
import Derived.Deep.CutBlock
import Derived.Test.YtkbilipgidcgeaaGreatDoorH25
import Derived.Test.YtkbilipgidcgeaaGreatDoorH21
import Derived.Test.YtkbilipgidcgeaaGreatDoorH10
import Derived.Test.YtkbilipgidcgeaaGreatDoorH08
set_option linter.unusedVariables false
set_option linter.unusedSimpArgs false
namespace Go.Proofs.YtkbilipgidcgeaaGreatDoor
open Go.RowKit Go.ChangeMaps
theorem Only.setBlk {S : Nat → Prop} {w w1 : World} (h : Only S w w1) (b : Nat) (o : Obj) (hs : S b) : Only S w (setBlock w1 b o) :=
  ⟨h.os, h.tape, h.output, by rw [setBlock_size]; exact h.size, fun k hk hn => by rw [setBlock_other _ _ (fun e => hn (by rw [e]; exact hs))]; exact h.block k hk hn⟩

end Go.Proofs.YtkbilipgidcgeaaGreatDoor
namespace Go.Proofs.YtkbilipgidcgeaaGreatDoor.Tiny
open Go.RowKit Go.ChangeMaps
attribute [local go_sem] ext_cell ext_frozen run_store_func mk_ints0 mk_ints1 mk_ints2 mk_lists0 mk_lists1 mk_lists2 ta_ints run_makeMap
attribute [local irreducible] labCells
attribute [local go_sem] labGet0 labGet1 labGet2 labGet3 labGet4 labGet5 labGet6 labGet7 labGet8 labGet9 labGet10 labGet11 labGet12 labGet13 labGet14 labGet15 labGet16 labGet17 labGet18 labGet19 labGet20 labGet21 labGet22 labGet23 labGet24 labGet25

theorem zero_bool (w : World) : (zeroValue 4).run Tryz.prog w = .ok (.bool false) w := by kernel_rfl
theorem zero_int' (w : World) : (zeroValue 3).run Tryz.prog w = .ok (.int .i64 0) w := by kernel_rfl

theorem check_pair (a b : Int) (w : World) : (Instr.checkKey true 10000 201 (.agg #[.int .i64 a, .int .i64 b])).run Tryz.prog w = .ok () w := by kernel_rfl

set_option maxRecDepth 100000 in
theorem tat (b s mo th at_ c : Nat) (x y : Int) (w : World) (hb : w.heap[b]? = some (.cells (blocksC s mo th at_).toArray 146 (0, 0))) (ha : w.heap[at_]? = some (.map #[] c)) :
    Calls Tryz.prog 70 #[.pointer (some ⟨b, 0, none⟩), .int .i64 x, .int .i64 y] w fun e w' => e = .returned (.tuple #[.int .i64 0, .bool false]) ∧ w = w' := by
  unfold blocksC at hb
  have c3 := cell_l hb 3 rfl
  have hl := map_look_empty (P := Tryz.prog) (key := .agg #[.int .i64 x, .int .i64 y]) true Tryz.underlying144 ha (check_pair x y w) Tryz.underlying201 (zero_int' w)
  simp only [if_true] at hl
  clear hb ha
  go_enter Tryz.func70, Tryz.ntmps70
  go_wp2
  go_ret2
  exact ⟨rfl, rfl⟩

set_option maxRecDepth 100000 in
set_option maxHeartbeats 1000000 in
theorem tthread (b s mo th at_ : Nat) (B : ByteArray) (w : World) (hb : w.heap[b]? = some (.cells (blocksC s mo th at_).toArray 146 (0, 0))) (hm : w.heap[mo]? = some (.map #[⟨.int .i64 0, .agg (labCells B), 0⟩] 1)) (ht : w.heap[th]? = some (.map #[] 0)) :
    Calls Tryz.prog 68 #[.pointer (some ⟨b, 0, none⟩), .int .i64 0] w fun e w' => e = .returned (.int .i64 0) ∧ Only (· = th) w w' ∧ w'.heap[th]? = some (.map #[⟨.int .i64 0, .bool true, 0⟩] 1) := by
  have hb' := hb
  unfold blocksC at hb'
  have c1 := cell_l hb' 1 rfl
  have c2 := cell_l hb' 2 rfl
  have hl := map_look (P := Tryz.prog) (key := .int .i64 0) false Tryz.underlying143 ht Tryz.underlying3 rfl (zero_bool w) rfl
  have hu := map_new (P := Tryz.prog) (key := .int .i64 0) (val := .bool true) Tryz.underlying143 ht Tryz.underlying3 rfl rfl
  simp only [Bool.false_eq_true, if_false] at hl
  obtain ⟨W, hW⟩ : ∃ W, W = setBlock w th (.map ((#[] : Array MapEntry).push ⟨.int .i64 0, .bool true, 0⟩) (0 + 1)) := ⟨_, rfl⟩
  rw [← hW] at hu
  have nbt : b ≠ th := fun e => by subst e; rw [hb] at ht; cases ht
  have nmt : mo ≠ th := fun e => by subst e; rw [hm] at ht; simp at ht
  have kb : W.heap[b]? = some (.cells (blocksC s mo th at_).toArray 146 (0, 0)) := by rw [hW, setBlock_other _ _ nbt]; exact hb
  have km : W.heap[mo]? = some (.map #[⟨.int .i64 0, .agg (labCells B), 0⟩] 1) := by rw [hW, setBlock_other _ _ nmt]; exact hm
  have kt : W.heap[th]? = some (.map #[⟨.int .i64 0, .bool true, 0⟩] 1) := by rw [hW]; exact setBlock_same (lt_of_block ht) _
  have ko : Only (· = th) w W := by rw [hW]; exact (Only.refl _ w).setBlk th _ rfl
  have d1 : W.cell? ⟨b, 1, none⟩ = some (.map (some mo)) := by unfold blocksC at kb; exact cell_l kb 1 rfl
  have HK := Lib.hid (And.intro kb (And.intro km (And.intro kt ko)))
  clear hb hm ht hb' hW kb km kt ko nbt nmt
  go_enter Tryz.func68, Tryz.ntmps68
  go_wp2_with (go_at_call 161; refine (keysM _ _).mono ?_; rintro e wz ⟨rfl, rfl⟩)
  refine (sorted_one W.heap.size mo 0 (.agg (labCells B)) _ (cell_in (heap_alloc_new _ _) 0 rfl) (by simp) (block_old HK.out.2.1)).mono ?_
  rintro e w1 ⟨g, cap, rfl, hown, hb1⟩
  have x0 := ownsRow_cell1 hown
  have HS := Lib.hid (below_call ((Below.refl _ _).alloc (Nat.le_refl _) _) hb1)
  have HM := Lib.hid (hown)
  clear hown hb1
  go_wp2
  refine wp_loop_rounds 2 ?_
  rw [rounds_succ]
  go_wp2_with (go_at_call 162; refine (tmake b s mo th at_ 0 B _ ((HS.out.block _ (lt_of_block HK.out.1)).trans HK.out.1) ((HS.out.block _ (lt_of_block HK.out.2.1)).trans HK.out.2.1)).mono ?_; rintro e w2 ⟨rfl, hb2⟩; have H2 := Lib.hid hb2; clear hb2)
  rw [rounds_succ]
  go_wp2
  go_ret
  obtain ⟨kb, km, kt, ko⟩ := HK.out
  have hB := HS.out.trans (H2.out.mono HS.out.size)
  exact ⟨rfl, ko.call hB, (hB.block _ (lt_of_block kt)).trans kt⟩

set_option maxRecDepth 100000 in
set_option maxHeartbeats 1000000 in
theorem tmodule (b s mo th at_ : Nat) (B : ByteArray) (hsz : B.size = 256) (w : World) (hb : w.heap[b]? = some (.cells (blocksC s mo th at_).toArray 146 (0, 0))) (hm : w.heap[mo]? = some (.map #[] 0)) (ht : w.heap[th]? = some (.map #[] 0)) (nmt : mo ≠ th) :
    Calls Tryz.prog 204 #[.pointer (some ⟨b, 0, none⟩), .int .i64 0, .agg (labCells B)] w fun e w' => e = .returned (.int .i64 0) ∧ Only (· = mo) w w' ∧ w'.heap[mo]? = some (.map #[⟨.int .i64 0, .agg (labCells B), 0⟩] 1) := by
  have lb := lt_of_block hb
  have HS := Lib.hid hsz
  have HH := Lib.hid (And.intro hb (And.intro hm (And.intro ht nmt)))
  have HL0 := Lib.hid (heap_alloc_new w (.cells (labCells B) 45))
  clear hb hm ht nmt hsz
  go_enter Tryz.func204, Tryz.ntmps204
  go_upto_region 3 with (first
    | (refine wpList_load_rowG (by rfl) 45 (.tmp 5) rfl w.heap.size rfl 45 (labCells B) (0, 0) _ HL0.out Tryz.underlying45 rfl (lab_size B) ?_)
    | (go_at_call 22; refine (iright B HS.out _).mono ?_; rintro e w1 ⟨rfl, hb1⟩; have H1 := Lib.hid hb1; clear hb1))
  have hs1 := size_call H1.out
  have hB1 := below_call ((Below.refl _ _).alloc (Nat.le_refl _) _) H1.out
  obtain ⟨hb, hm, ht, nmt⟩ := HH.out
  have kb := (hB1.block _ (lt_of_block hb)).trans hb
  have km := (hB1.block _ (lt_of_block hm)).trans hm
  have kt := (hB1.block _ (lt_of_block ht)).trans ht
  have kl := (H1.out.block _ (lt_of_block HL0.out)).trans HL0.out
  have lmo := lt_of_block hm
  have hl := map_look (P := Tryz.prog) (key := .int .i64 0) true Tryz.underlying142 km Tryz.underlying3 rfl (zero_img w1) rfl
  simp only [if_true] at hl
  have c1 := by unfold blocksC at kb; exact cell_l kb 1 rfl
  have HK := Lib.hid (And.intro hB1 (And.intro kb (And.intro km (And.intro kt (And.intro kl nmt)))))
  clear hb hm ht nmt hB1 kb km kt kl HH HL0 H1
  unfold zeroImg at hl
  go_upto_region 6 with (((with_reducible refine at_store_law ?_); refine wpList_store_row rfl _ _ _ rfl _ _ rfl rfl _ _ (by (repeat (first | assumption | exact heap_alloc_new _ _ | refine block_old ?_ | refine block_drew ?_ | apply setRow_heap | (refine (setRow_other _ _ _ _ ?_).trans ?_; omega)))) (by kernel_rfl) (by rfl) (by simp [Value.oneCell']) ?_; (try simp only [World.setRow_alloc_new])))
  obtain ⟨hB1, kb, km, kt, kl, nmt⟩ := HK.out
  refine name_world fun V hV => ?_
  have hBV : Below w1.heap.size w1 V := by rw [← hV]; go_grown
  have vb := (hBV.block _ (lt_of_block kb)).trans kb
  have vm := (hBV.block _ (lt_of_block km)).trans km
  have vt := (hBV.block _ (lt_of_block kt)).trans kt
  have vl := (hBV.block _ (lt_of_block kl)).trans kl
  have hB := hB1.trans (hBV.mono hB1.size)
  clear hV hBV kb km kt kl hB1 HK hl c1
  have vb' := vb
  unfold blocksC at vb'
  refine wp_region_facts [.val (.pointer (some ⟨b, 0, none⟩)), .val (.pointer (some ⟨b, 0, none⟩)), .val (.pointer (some ⟨b, 1, none⟩)), .val (.map (some mo)), .val (.int .i64 0), .val (.agg (labCells B))] (by kernel_rfl) (by kernel_rfl) ?_ ?_
  · simp only [stepsAll, List.take, List.length]
    refine ⟨?_, ?_, ?_, ?_, ?_, ?_, ?_⟩
    all_goals first | trivial | (intro a w2 hb2 hf hd)
    all_goals have hf0 : a.tmps[(0 : Nat)]?.getD undef = .pointer (some ⟨b, 0, none⟩) := (hf 0 (by decide +kernel)).trans rfl
    all_goals have hf1 : a.tmps[(1 : Nat)]?.getD undef = .int .i64 0 := (hf 1 (by decide +kernel)).trans rfl
    all_goals have hf5 : a.tmps[(5 : Nat)]?.getD undef = .pointer (some ⟨w.heap.size, 0, none⟩) := (hf 5 (by decide +kernel)).trans rfl
    · exact grow_tmp _ rfl ⟨hf0, fun h => by cases h⟩
    · have h0 : a.tmps[(28 : Nat)]?.getD undef = .pointer (some ⟨b, 0, none⟩) := hd 0 (by simp) (by kernel_rfl)
      exact grow_value (v := .pointer (some ⟨b, 0, none⟩)) (by simp [execOp, h0, go_sem]) (Below.refl _ _) ⟨rfl, fun h => by cases h⟩
    · have h0 : a.tmps[(29 : Nat)]?.getD undef = .pointer (some ⟨b, 0, none⟩) := hd 1 (by simp) (by kernel_rfl)
      exact grow_value (v := .pointer (some ⟨b, 1, none⟩)) (by simp [execOp, h0, go_sem]) (Below.refl _ _) ⟨rfl, fun h => by cases h⟩
    · have h0 : a.tmps[(30 : Nat)]?.getD undef = .pointer (some ⟨b, 1, none⟩) := hd 2 (by simp) (by kernel_rfl)
      have h1 := cell_l ((hb2.block _ (lt_of_block vb')).trans vb') 1 rfl
      exact grow_value (v := .map (some mo)) (by simp [execOp, h0, h1, go_sem]) (Below.refl _ _) ⟨rfl, fun h => by cases h⟩
    · exact grow_tmp _ rfl ⟨hf1, fun h => by cases h⟩
    · exact grow_load_row 5 45 rfl w.heap.size hf5 _ _ _ _ ((hb2.block _ (lt_of_block vl)).trans vl) Tryz.underlying45 rfl (lab_size B) ⟨rfl, fun h => by cases h⟩
  · intro f w2 hb2 hs _ _
    have g31 : f 31 = .map (some mo) := hs 3 (by simp)
    have g32 : f 32 = .int .i64 0 := hs 4 (by simp)
    have g33 : f 33 = .agg (labCells B) := hs 5 (by simp)
    rw [show (List.range (List.length _)).map (dstOf _) = [28, 29, 30, 31, 32, 33] from by kernel_rfl]
    simp only [actOf, List.foldl, Act.put, List.drop, List.length, g31, g32, g33, List.setIfInBounds_toArray, List.set_cons_zero, List.set_cons_succ]
    have xm := (hb2.block _ (lt_of_block vm)).trans vm
    have hu := map_new (P := Tryz.prog) (key := .int .i64 0) (val := .agg (labCells B)) Tryz.underlying142 xm Tryz.underlying3 rfl rfl
    obtain ⟨X, hX⟩ : ∃ X, X = setBlock w2 mo (.map ((#[] : Array MapEntry).push ⟨.int .i64 0, .agg (labCells B), 0⟩) (0 + 1)) := ⟨_, rfl⟩
    rw [← hX] at hu
    have kb := (hb2.block _ (lt_of_block vb)).trans vb
    have kt := (hb2.block _ (lt_of_block vt)).trans vt
    have nbm : b ≠ mo := fun e => by subst e; rw [kb] at xm; cases xm
    have yb : X.heap[b]? = some (.cells (blocksC s mo th at_).toArray 146 (0, 0)) := by rw [hX, setBlock_other _ _ nbm]; exact kb
    have yt : X.heap[th]? = some (.map #[] 0) := by rw [hX, setBlock_other _ _ (Ne.symm nmt)]; exact kt
    have ym : X.heap[mo]? = some (.map #[⟨.int .i64 0, .agg (labCells B), 0⟩] 1) := by rw [hX]; exact setBlock_same (lt_of_block xm) _
    have yo : Only (· = mo) w X := by rw [hX]; exact (Only.of_below (hB.trans (hb2.mono hB.size))).setBlk mo _ rfl
    have c2 : X.cell? ⟨b, 2, none⟩ = some (.map (some th)) := by unfold blocksC at yb; exact cell_l yb 2 rfl
    have HX := Lib.hid (And.intro yt (And.intro ym yo))
    clear hs g31 g32 g33 xm kb kt nbm yb yt ym yo hX hb2 vb vm vt vl vb' hB
    go_wp2_with (go_at_call 281; refine (keysT _ _).mono ?_; rintro e wz ⟨rfl, rfl⟩)
    refine (sorted_none X.heap.size th 0 _ (cell_in (heap_alloc_new _ _) 0 rfl) (by simp) (block_old HX.out.1)).mono ?_
    rintro e w3 ⟨rfl, hb3⟩
    have H3 := Lib.hid (below_call ((Below.refl _ _).alloc (Nat.le_refl _) _) hb3)
    clear hb3
    (go_wp2; repeat (any_goals (first | (refine wp_loop_rounds 2 ?_; rw [rounds_succ]; go_wp2) | (rw [rounds_succ]; go_wp2))))
    go_ret
    obtain ⟨yt, ym, yo⟩ := HX.out
    exact ⟨rfl, yo.call H3.out, (H3.out.block _ (lt_of_block ym)).trans ym⟩
end Go.Proofs.YtkbilipgidcgeaaGreatDoor.Tiny

namespace Go.Proofs.YtkbilipgidcgeaaGreatDoor.Tiny
open Go.RowKit Go.ChangeMaps
attribute [local go_sem] ext_cell ext_frozen run_store_func mk_ints0 mk_ints1 mk_ints2 mk_lists0 mk_lists1 mk_lists2 ta_ints run_makeMap
attribute [local irreducible] labCells
attribute [local go_sem] labGet0 labGet1 labGet2 labGet3 labGet4 labGet5 labGet6 labGet7 labGet8 labGet9 labGet10 labGet11 labGet12 labGet13 labGet14 labGet15 labGet16 labGet17 labGet18 labGet19 labGet20 labGet21 labGet22 labGet23 labGet24 labGet25

def loaderC (s b st : Nat) (mods order : Value) : List Value := [.pointer (some ⟨s, 0, none⟩), .pointer (some ⟨b, 0, none⟩), .map (some st), .bool false, mods, order]

set_option maxRecDepth 100000 in
set_option maxHeartbeats 1000000 in
theorem lput (l s b st : Nat) (mods order : Value) (B : ByteArray) (w : World) (hl : w.heap[l]? = some (.cells (loaderC s b st mods order).toArray 149 (0, 0))) (hs : w.heap[st]? = some (.map #[] 0)) :
    Calls Tryz.prog 63 #[.pointer (some ⟨l, 0, none⟩), .agg (labCells B)] w fun e w' => e = .returned (.tuple #[]) ∧ Only (· = st) w w' ∧ w'.heap[st]? = some (.map #[⟨.string labS, .agg (labCells B), 0⟩] 1) := by
  have hg := heap_alloc_new w (.cells (labCells B) 45)
  have kl := block_old (o' := .cells (labCells B) 45) hl
  have ks := block_old (o' := .cells (labCells B) 45) hs
  have HS := Lib.hid ks
  unfold loaderC at kl
  clear hl hs ks
  go_enter Tryz.func63, Tryz.ntmps63
  go_upto_region 1 with fail
  refine wp_region_facts [.val (.pointer (some ⟨l, 0, none⟩)), .val (.pointer (some ⟨l, 0, none⟩)), .val (.pointer (some ⟨l, 2, none⟩)), .val (.map (some st)), .val (.pointer (some ⟨w.heap.size, 0, none⟩)), .val (.string labS), .val (.agg (labCells B))] (by kernel_rfl) (by kernel_rfl) ?_ ?_
  · simp only [stepsAll, List.take, List.length]
    refine ⟨?_, ?_, ?_, ?_, ?_, ?_, ?_, ?_⟩
    all_goals first | trivial | (intro a wr hb hf hd)
    all_goals have hf0 : a.tmps[(0 : Nat)]?.getD undef = .pointer (some ⟨l, 0, none⟩) := (hf 0 (by decide +kernel)).trans rfl
    all_goals have hf3 : a.tmps[(3 : Nat)]?.getD undef = .pointer (some ⟨w.heap.size, 0, none⟩) := (hf 3 (by decide +kernel)).trans rfl
    · exact grow_tmp _ rfl ⟨hf0, fun h => by cases h⟩
    · have h4 : a.tmps[(4 : Nat)]?.getD undef = .pointer (some ⟨l, 0, none⟩) := hd 0 (by simp) (by kernel_rfl)
      exact grow_value (v := .pointer (some ⟨l, 0, none⟩)) (by simp [execOp, h4, go_sem]) (Below.refl _ _) ⟨rfl, fun h => by cases h⟩
    · have h5 : a.tmps[(5 : Nat)]?.getD undef = .pointer (some ⟨l, 0, none⟩) := hd 1 (by simp) (by kernel_rfl)
      exact grow_value (v := .pointer (some ⟨l, 2, none⟩)) (by simp [execOp, h5, go_sem]) (Below.refl _ _) ⟨rfl, fun h => by cases h⟩
    · have h6 : a.tmps[(6 : Nat)]?.getD undef = .pointer (some ⟨l, 2, none⟩) := hd 2 (by simp) (by kernel_rfl)
      have hc := cell_l ((hb.block _ (lt_of_block kl)).trans kl) 2 rfl
      exact grow_value (v := .map (some st)) (by simp [execOp, h6, hc, go_sem]) (Below.refl _ _) ⟨rfl, fun h => by cases h⟩
    · exact grow_value (v := .pointer (some ⟨w.heap.size, 0, none⟩)) (by simp [execOp, hf3, go_sem]) (Below.refl _ _) ⟨rfl, fun h => by cases h⟩
    · have h8 : a.tmps[(8 : Nat)]?.getD undef = .pointer (some ⟨w.heap.size, 0, none⟩) := hd 4 (by simp) (by kernel_rfl)
      have hc := cell_in (v := .string labS) ((hb.block _ (lt_of_block hg)).trans hg) 0 (labGet0 B)
      exact grow_value (v := .string labS) (by simp [execOp, h8, hc, go_sem]) (Below.refl _ _) ⟨rfl, fun h => by cases h⟩
    · exact grow_load_row 3 45 rfl w.heap.size hf3 _ _ _ _ ((hb.block _ (lt_of_block hg)).trans hg) Tryz.underlying45 rfl (lab_size B) ⟨rfl, fun h => by cases h⟩
  · intro fv w2 hb2 hs hn hne
    have g4 : fv 4 = .pointer (some ⟨l, 0, none⟩) := hs 0 (by simp)
    have g5 : fv 5 = .pointer (some ⟨l, 0, none⟩) := hs 1 (by simp)
    have g6 : fv 6 = .pointer (some ⟨l, 2, none⟩) := hs 2 (by simp)
    have g7 : fv 7 = .map (some st) := hs 3 (by simp)
    have g8 : fv 8 = .pointer (some ⟨w.heap.size, 0, none⟩) := hs 4 (by simp)
    have g9 : fv 9 = .string labS := hs 5 (by simp)
    have g10 : fv 10 = .agg (labCells B) := hs 6 (by simp)
    rw [show (List.range (List.length _)).map (dstOf _) = [4, 5, 6, 7, 8, 9, 10] from by kernel_rfl]
    simp only [actOf, List.foldl, Act.put, List.drop, List.length, g4, g5, g6, g7, g8, g9, g10, List.setIfInBounds_toArray, List.set_cons_zero, List.set_cons_succ]
    clear hs hn hne g4 g5 g6 g7 g8 g9 g10
    have xs := (hb2.block _ (lt_of_block HS.out)).trans HS.out
    have hu := map_new (P := Tryz.prog) (key := .string labS) (val := .agg (labCells B)) Tryz.underlying147 xs Tryz.underlying9 trivial rfl
    have ho : Only (· = st) w (setBlock w2 st (.map ((#[] : Array MapEntry).push ⟨.string labS, .agg (labCells B), 0⟩) (0 + 1))) := (Only.of_below (below_call ((Below.refl _ _).alloc (Nat.le_refl _) _) hb2)).setBlk st _ rfl
    have hm := setBlock_same (lt_of_block xs) (.map ((#[] : Array MapEntry).push ⟨.string labS, .agg (labCells B), 0⟩) (0 + 1))
    clear xs hb2
    go_wp2
    go_end0
    exact ⟨rfl, ho, hm⟩

set_option maxRecDepth 100000 in
set_option maxHeartbeats 1000000 in
theorem lnew (s b g : Nat) (B : ByteArray) (w : World) (hg : w.heap[g]? = some (.cells (labCells B) 45 (0, 0))) :
    Calls Tryz.prog 23 #[.pointer (some ⟨s, 0, none⟩), .pointer (some ⟨b, 0, none⟩), .slice (some ⟨g, 0, none⟩) 1 1, .bool false] w fun e w' =>
      e = .returned (.pointer (some ⟨w.heap.size + 1, 0, none⟩)) ∧ Below w.heap.size w w' ∧ w'.heap[w.heap.size + 1]? = some (.cells (loaderC s b w.heap.size (.slice none 0 0) (.slice none 0 0)).toArray 149 (0, 0)) ∧
        w'.heap[w.heap.size]? = some (.map #[⟨.string labS, .agg (labCells B), 0⟩] 1) := by
  have lg := lt_of_block hg
  have HG := Lib.hid hg
  clear hg
  go_enter Tryz.func23, Tryz.ntmps23
  go_wp2
  refine wp_loop_rounds 2 ?_
  rw [rounds_succ]
  refine name_world fun W hW => ?_
  have kl : W.heap[w.heap.size + 1]? = some (.cells (loaderC s b w.heap.size (.slice none 0 0) (.slice none 0 0)).toArray 149 (0, 0)) := by rw [← hW]; exact heap_alloc2_new _ _ _
  have km : W.heap[w.heap.size]? = some (.map #[] 0) := by rw [← hW]; exact block_old (heap_alloc_new _ _)
  have hB : Below w.heap.size w W := by rw [← hW]; go_grown
  have kg := (hB.block _ (lt_of_block HG.out)).trans HG.out
  have HK := Lib.hid (And.intro kl (And.intro km (And.intro hB kg)))
  clear kl km hB kg hW
  go_upto_region 5 with (first
    | (refine wpList_load_row rfl 45 (.tmp 22) rfl g rfl 45 (labCells B) (0, 0) _ HK.out.2.2.2 Tryz.underlying45 rfl (lab_size B) ?_)
    | ((with_reducible refine at_store_law ?_); refine wpList_store_row rfl 45 _ _ rfl _ _ rfl rfl _ _ (by (repeat (first | assumption | exact heap_alloc_new _ _ | refine block_old ?_ | refine block_drew ?_ | apply setRow_heap | (refine (setRow_other _ _ _ _ ?_).trans ?_; omega)))) (lab_size B) (by unfold labCells; rfl) (lab_one B) ?_; (try simp only [World.setRow_alloc_new])))
  refine name_world fun V hV => ?_
  have kv : V.heap[W.heap.size]? = some (.cells (labCells B) 45 (0, 0)) := by rw [← hV]; exact heap_alloc_new _ _
  have vl : V.heap[w.heap.size + 1]? = some (.cells (loaderC s b w.heap.size (.slice none 0 0) (.slice none 0 0)).toArray 149 (0, 0)) := by rw [← hV]; exact block_old HK.out.1
  have vm : V.heap[w.heap.size]? = some (.map #[] 0) := by rw [← hV]; exact block_old HK.out.2.1
  have vB : Below w.heap.size w V := by rw [← hV]; exact HK.out.2.2.1.alloc HK.out.2.2.1.size _
  have HV := Lib.hid (And.intro kv (And.intro vl (And.intro vm vB)))
  clear kv vl vm vB hV HK
  go_wp2_with (first
    | (refine wpList_load_row rfl 45 (.tmp 11) rfl W.heap.size rfl 45 (labCells B) (0, 0) _ HV.out.1 Tryz.underlying45 rfl (lab_size B) ?_)
    | (go_at_call 63; refine (lput (w.heap.size + 1) s b w.heap.size (.slice none 0 0) (.slice none 0 0) B V HV.out.2.1 HV.out.2.2.1).mono ?_; rintro e W1 ⟨rfl, ho1, hm1⟩; have H1 := Lib.hid (And.intro ho1 hm1); clear ho1 hm1))
  rw [rounds_succ]
  go_wp2
  go_ret
  obtain ⟨kv, kl, km, hB⟩ := HV.out
  obtain ⟨ho1, hm1⟩ := H1.out
  have h2 : Only (fun b => w.heap.size ≤ b) w W1 := (Only.of_below hB).then ho1 (fun b _ hb => by omega)
  exact ⟨rfl, h2.below (Nat.le_refl _) (fun k h => h), ho1.kept kl (by omega), hm1⟩
end Go.Proofs.YtkbilipgidcgeaaGreatDoor.Tiny

namespace Go.Proofs.YtkbilipgidcgeaaGreatDoor.Tiny
open Go.RowKit Go.ChangeMaps
attribute [local go_sem] ext_cell ext_frozen run_store_func mk_ints0 mk_ints1 mk_ints2 mk_lists0 mk_lists1 mk_lists2 ta_ints run_makeMap
attribute [local irreducible] labCells
attribute [local go_sem] labGet0 labGet1 labGet2 labGet3 labGet4 labGet5 labGet6 labGet7 labGet8 labGet9 labGet10 labGet11 labGet12 labGet13 labGet14 labGet15 labGet16 labGet17 labGet18 labGet19 labGet20 labGet21 labGet22 labGet23 labGet24 labGet25

set_option maxRecDepth 100000 in
set_option maxHeartbeats 1000000 in
theorem lfetch (l s b st : Nat) (mods order : Value) (B : ByteArray) (hsz : B.size = 256) (w : World) (hl : w.heap[l]? = some (.cells (loaderC s b st mods order).toArray 149 (0, 0))) (hs : w.heap[st]? = some (.map #[⟨.string labS, .agg (labCells B), 0⟩] 1)) :
    Calls Tryz.prog 279 #[.pointer (some ⟨l, 0, none⟩), .string labS, .bool true] w fun e w' => e = .returned (.tuple #[.agg (labCells B), .int .i64 0]) ∧ Below w.heap.size w w' := by
  have HS := Lib.hid hsz
  have ll := lt_of_block hl
  unfold loaderC at hl
  have c2 := cell_l hl 2 rfl
  have HH := Lib.hid (And.intro hl hs)
  clear hl hs hsz
  go_enter Tryz.func279, Tryz.ntmps279
  go_upto_region 1 with fail
  refine name_world fun V hV => ?_
  have vB : Below w.heap.size w V := by rw [← hV]; go_grown
  have vz : ∃ z : Array Value, z.size = 26 ∧ V.heap[w.heap.size]? = some (.cells z 45 (0, 0)) := by rw [← hV]; exact ⟨_, rfl, heap_alloc_new _ _⟩
  obtain ⟨z, hz, vz⟩ := vz
  clear hV
  have vl := (vB.block _ ll).trans HH.out.1
  have vs := (vB.block _ (lt_of_block HH.out.2)).trans HH.out.2
  have e2 := cell_l vl 2 rfl
  have hlk := map_hit (P := Tryz.prog) (key := .string labS) true 0 Tryz.underlying147 vs Tryz.underlying9 trivial (v := .agg (labCells B)) rfl
  simp only [if_true] at hlk
  have HV := Lib.hid (And.intro vB vz)
  clear vB vz vl vs c2 HH
  go_upto_region 2 with ((with_reducible refine at_store_law ?_); refine wpList_store_row rfl 45 _ _ rfl _ _ rfl rfl _ _ (by (repeat (first | assumption | exact heap_alloc_new _ _ | refine block_old ?_ | refine block_drew ?_ | apply setRow_heap | (refine (setRow_other _ _ _ _ ?_).trans ?_; omega)))) (lab_size B) (by unfold labCells; rfl) (lab_one B) ?_; (try simp only [World.setRow_alloc_new]))
  refine name_world fun X hX => ?_
  have x8 : X.heap[V.heap.size]? = some (.cells (labCells B) 45 (0, 0)) := by rw [← hX]; exact heap_alloc_new _ _
  have xz : X.heap[w.heap.size]? = some (.cells z 45 (0, 0)) := by rw [← hX]; exact block_old HV.out.2
  have xB : Below w.heap.size w X := by rw [← hX]; exact HV.out.1.alloc HV.out.1.size _
  have HX := Lib.hid (And.intro x8 (And.intro xz xB))
  clear x8 xz xB hX e2 hlk
  go_upto_region 6 with (first
    | (refine wpList_load_row rfl 45 (.tmp 8) rfl V.heap.size rfl 45 (labCells B) (0, 0) _ HX.out.1 Tryz.underlying45 rfl (lab_size B) ?_)
    | (go_at_call 22; refine (iright B HS.out _).mono ?_; rintro e w1 ⟨rfl, hb1⟩; have k8 := (hb1.block _ (lt_of_block HX.out.1)).trans HX.out.1; have H1 := Lib.hid hb1; clear hb1))
  have kz := (H1.out.block _ (lt_of_block HX.out.2.1)).trans HX.out.2.1
  have kB := HX.out.2.2.trans (H1.out.mono HX.out.2.2.size)
  have c1 := cell_in (v := .bool false) k8 1 (labGet1 B)
  have c16 := cell_in (v := .int .i64 0) k8 16 (labGet16 B)
  have HK := Lib.hid (And.intro k8 (And.intro kz kB))
  clear k8 kz kB HX H1 HV
  go_wp2_with (first
    | (refine wpList_load_row rfl 45 (.tmp 8) rfl V.heap.size rfl 45 (labCells B) (0, 0) _ HK.out.1 Tryz.underlying45 rfl (lab_size B) ?_)
    | ((with_reducible refine at_store_law ?_); refine wpList_store_row rfl 45 _ _ rfl _ _ rfl rfl _ _ HK.out.2.1 (lab_size B) (by rw [hz]; unfold labCells; rfl) (lab_one B) ?_))
  obtain ⟨k8, kz, kB⟩ := HK.out
  refine bodyPost_ret (results_cell_tmp rfl _ _ w.heap.size 45 (labCells B) (0, 0) _ rfl (setRow_heap w1 w.heap.size z (labCells B) _ _ kz) Tryz.underlying45 rfl (lab_size B)) rfl ⟨rfl, ?_⟩
  exact ((Only.of_below_le kB (fun k _ h => h) : Only (fun b => w.heap.size ≤ b) w w1).setRow w.heap.size _ (.inl (Nat.le_refl _))).below (Nat.le_refl _) (fun k h => h)
end Go.Proofs.YtkbilipgidcgeaaGreatDoor.Tiny

namespace Go.Proofs.YtkbilipgidcgeaaGreatDoor.Tiny
open Go.RowKit Go.ChangeMaps
attribute [local go_sem] ext_cell ext_frozen run_store_func mk_ints0 mk_ints1 mk_ints2 mk_lists0 mk_lists1 mk_lists2 ta_ints run_makeMap

def modC (B : ByteArray) (base count : Int) : List Value := (labCells B).toList ++ [.int .i64 base, .int .i64 0, .int .i64 count, .slice none 0 0, .bool false, .int .i64 0]
def zeroMod : Array Value := #[.string ⟨#[]⟩, .bool false, .int .i64 0, .int .i64 0, .int .i64 0, .string ⟨#[]⟩, .string ⟨#[]⟩, .int .i64 0, .slice none 0 0, .slice none 0 0, .slice none 0 0, .slice none 0 0, .slice none 0 0, .slice none 0 0, .slice none 0 0, .slice none 0 0,
  .int .i64 0, .slice none 0 0, .slice none 0 0, .slice none 0 0, .slice none 0 0, .slice none 0 0, .slice none 0 0, .slice none 0 0, .slice none 0 0, .slice none 0 0, .int .i64 0, .int .i64 0, .int .i64 0, .slice none 0 0, .bool false, .int .i64 0]
theorem info_mod : (Tryz.prog.info? 91).map (fun i => (i.zero, i.size, i.bytes)) = some (some (.agg zeroMod), 32, 568) := by kernel_rfl
theorem modC_len (B : ByteArray) (x y : Int) : (modC B x y).length = 32 := by unfold modC labCells; rfl
theorem modC_one (B : ByteArray) (x y : Int) : ∀ u ∈ modC B x y, u.oneCell' = true := by unfold modC labCells; simp [Value.oneCell']

theorem build_mod (B : ByteArray) (o : Oper) (a : Act) (w : World) (ho : o.op = .build 91 #[(0, .tmp 38), (2, .tmp 39), (6, .tmp 43)]) (h38 : a.tmps[(38 : Nat)]?.getD undef = .agg (labCells B)) (h39 : a.tmps[(39 : Nat)]?.getD undef = .int .i64 0) (h43 : a.tmps[(43 : Nat)]?.getD undef = .int .i64 0) :
    (execOp a.eval o).run Tryz.prog w = .ok (.value (.agg (modC B 0 0).toArray)) w := by
  unfold modC
  unfold labCells at *
  simp [execOp, ho, h38, h39, h43, go_sem]

theorem buildSlice_mod (B : ByteArray) (o : Oper) (a : Act) (w : World) (ho : o.op = .buildSlice 92 1 #[(0, .tmp 44)]) (h44 : a.tmps[(44 : Nat)]?.getD undef = .agg (modC B 0 0).toArray) :
    (execOp a.eval o).run Tryz.prog w = .ok (.value (sl 1 w.heap.size)) (w.alloc (.cells (modC B 0 0).toArray 91)) := by
  unfold modC labCells at *
  unfold sl
  simp [execOp, ho, h44, go_sem]

attribute [local irreducible] labCells

set_option maxRecDepth 100000 in
set_option maxHeartbeats 1000000 in
theorem ladd (l s b st t nm : Nat) (mods order : Value) (B : ByteArray) (hsz : B.size = 256) (w : World) (hl : w.heap[l]? = some (.cells (loaderC s b st mods order).toArray 149 (0, 0))) (hs : w.heap[st]? = some (.map #[⟨.string labS, .agg (labCells B), 0⟩] 1))
    (ht : w.heap[t]? = some (.cells [.int .i64 0, .slice none 0 0, .map (some nm), .slice none 0 0].toArray 272 (0, 0))) (hn : w.heap[nm]? = some (.map #[] 0)) :
    Calls Tryz.prog 200 #[.pointer (some ⟨l, 0, none⟩), .pointer (some ⟨t, 0, none⟩), .string labS, .int .i64 0, .bool true] w fun e w' => e = .returned (.int .i64 0) ∧ Only (fun b => b = t ∨ b = nm) w w' ∧
      ∃ g cap, w'.heap[t]? = some (.cells [.int .i64 0, .slice (some ⟨g, 0, none⟩) 1 cap, .map (some nm), .slice none 0 0].toArray 272 (0, 0)) ∧ w'.ownsRow w.heap.size 91 32 (.slice (some ⟨g, 0, none⟩) 1 cap) 1 (modC B 0 0) := by
  have HH := Lib.hid (And.intro hl (And.intro hs (And.intro ht hn)))
  have ltt := lt_of_block ht
  have lnm := lt_of_block hn
  clear hl hs ht hn
  have HS := Lib.hid hsz
  clear hsz
  go_enter Tryz.func200, Tryz.ntmps200
  go_upto_region 4 with (first
    | (go_at_call 279; refine (lfetch l s b st mods order B HS.out _ HH.out.1 HH.out.2.1).mono ?_; rintro e w1 ⟨rfl, hb1⟩; have H1 := Lib.hid hb1; clear hb1)
    | ((with_reducible refine at_store_law ?_); refine wpList_store_row rfl 45 _ _ rfl _ _ rfl rfl _ _ (by (repeat (first | assumption | exact heap_alloc_new _ _ | refine block_old ?_ | refine block_drew ?_ | apply setRow_heap | (refine (setRow_other _ _ _ _ ?_).trans ?_; omega)))) (lab_size B) (by unfold labCells; rfl) (lab_one B) ?_; (try simp only [World.setRow_alloc_new])))
  refine name_world fun V hV => ?_
  obtain ⟨hl, hs, ht, hn⟩ := HH.out
  have vB : Below w.heap.size w V := by rw [← hV]; exact H1.out.alloc H1.out.size _
  have vg : V.heap[w1.heap.size]? = some (.cells (labCells B) 45 (0, 0)) := by rw [← hV]; exact heap_alloc_new _ _
  have vt := (vB.block _ (lt_of_block ht)).trans ht
  have vn := (vB.block _ (lt_of_block hn)).trans hn
  clear hV hl hs ht hn HH HS
  refine wp_region_facts [.val (.pointer (some ⟨t, 0, none⟩)), .val (.pointer (some ⟨t, 0, none⟩)), .val (.pointer (some ⟨t, 2, none⟩)), .val (.map (some nm)), .val (.string labS), .val (.pointer (some ⟨t, 0, none⟩)), .val (.pointer (some ⟨t, 0, none⟩)), .val (.pointer (some ⟨t, 1, none⟩)), .val (.slice none 0 0), .val (.int .i64 0)] (by kernel_rfl) (by kernel_rfl) ?_ ?_
  · simp only [stepsAll, List.take, List.length]
    refine ⟨?_, ?_, ?_, ?_, ?_, ?_, ?_, ?_, ?_, ?_, ?_⟩
    all_goals first | trivial | (intro a wr hb hf hd)
    all_goals have hf1 : a.tmps[(1 : Nat)]?.getD undef = .pointer (some ⟨t, 0, none⟩) := (hf 1 (by decide +kernel)).trans rfl
    all_goals have hf2 : a.tmps[(2 : Nat)]?.getD undef = .string labS := (hf 2 (by decide +kernel)).trans rfl
    · exact grow_tmp _ rfl ⟨hf1, fun h => by cases h⟩
    · have h23 : a.tmps[(23 : Nat)]?.getD undef = .pointer (some ⟨t, 0, none⟩) := hd 0 (by simp) (by kernel_rfl)
      exact grow_value (v := .pointer (some ⟨t, 0, none⟩)) (by simp [execOp, h23, go_sem]) (Below.refl _ _) ⟨rfl, fun h => by cases h⟩
    · have h24 : a.tmps[(24 : Nat)]?.getD undef = .pointer (some ⟨t, 0, none⟩) := hd 1 (by simp) (by kernel_rfl)
      exact grow_value (v := .pointer (some ⟨t, 2, none⟩)) (by simp [execOp, h24, go_sem]) (Below.refl _ _) ⟨rfl, fun h => by cases h⟩
    · have h25 : a.tmps[(25 : Nat)]?.getD undef = .pointer (some ⟨t, 2, none⟩) := hd 2 (by simp) (by kernel_rfl)
      have hc := cell_l ((hb.block _ (lt_of_block vt)).trans vt) 2 rfl
      exact grow_value (v := .map (some nm)) (by simp [execOp, h25, hc, go_sem]) (Below.refl _ _) ⟨rfl, fun h => by cases h⟩
    · exact grow_tmp _ rfl ⟨hf2, fun h => by cases h⟩
    · exact grow_tmp _ rfl ⟨hf1, fun h => by cases h⟩
    · have h28 : a.tmps[(28 : Nat)]?.getD undef = .pointer (some ⟨t, 0, none⟩) := hd 5 (by simp) (by kernel_rfl)
      exact grow_value (v := .pointer (some ⟨t, 0, none⟩)) (by simp [execOp, h28, go_sem]) (Below.refl _ _) ⟨rfl, fun h => by cases h⟩
    · have h29 : a.tmps[(29 : Nat)]?.getD undef = .pointer (some ⟨t, 0, none⟩) := hd 6 (by simp) (by kernel_rfl)
      exact grow_value (v := .pointer (some ⟨t, 1, none⟩)) (by simp [execOp, h29, go_sem]) (Below.refl _ _) ⟨rfl, fun h => by cases h⟩
    · have h30 : a.tmps[(30 : Nat)]?.getD undef = .pointer (some ⟨t, 1, none⟩) := hd 7 (by simp) (by kernel_rfl)
      have hc := cell_l ((hb.block _ (lt_of_block vt)).trans vt) 1 rfl
      exact grow_value (v := .slice none 0 0) (by simp [execOp, h30, hc, go_sem]) (Below.refl _ _) ⟨rfl, fun h => by cases h⟩
    · have h31 : a.tmps[(31 : Nat)]?.getD undef = .slice none 0 0 := hd 8 (by simp) (by kernel_rfl)
      exact grow_value (v := .int .i64 0) (by simp [execOp, h31, go_sem]) (Below.refl _ _) ⟨rfl, fun h => by cases h⟩
  · intro fv w2 hb2 hs hn hne
    have g23 : fv 23 = .pointer (some ⟨t, 0, none⟩) := hs 0 (by simp)
    have g24 : fv 24 = .pointer (some ⟨t, 0, none⟩) := hs 1 (by simp)
    have g25 : fv 25 = .pointer (some ⟨t, 2, none⟩) := hs 2 (by simp)
    have g26 : fv 26 = .map (some nm) := hs 3 (by simp)
    have g27 : fv 27 = .string labS := hs 4 (by simp)
    have g28 : fv 28 = .pointer (some ⟨t, 0, none⟩) := hs 5 (by simp)
    have g29 : fv 29 = .pointer (some ⟨t, 0, none⟩) := hs 6 (by simp)
    have g30 : fv 30 = .pointer (some ⟨t, 1, none⟩) := hs 7 (by simp)
    have g31 : fv 31 = .slice none 0 0 := hs 8 (by simp)
    have g32 : fv 32 = .int .i64 0 := hs 9 (by simp)
    rw [show (List.range (List.length _)).map (dstOf _) = [23, 24, 25, 26, 27, 28, 29, 30, 31, 32] from by kernel_rfl]
    simp only [actOf, List.foldl, Act.put, List.drop, List.length, g23, g24, g25, g26, g27, g28, g29, g30, g31, g32, List.setIfInBounds_toArray, List.set_cons_zero, List.set_cons_succ]
    clear hs hn hne g23 g24 g25 g26 g27 g28 g29 g30 g31 g32
    have xn := (hb2.block _ (lt_of_block vn)).trans vn
    have hu := map_new (P := Tryz.prog) (key := .string labS) (val := .int .i64 0) Tryz.underlying269 xn Tryz.underlying9 trivial rfl
    obtain ⟨X, hX⟩ : ∃ X, X = setBlock w2 nm (.map ((#[] : Array MapEntry).push ⟨.string labS, .int .i64 0, 0⟩) (0 + 1)) := ⟨_, rfl⟩
    rw [← hX] at hu
    have ntn : t ≠ nm := fun e => by subst e; rw [vt] at vn; cases vn
    have xt := (hb2.block _ (lt_of_block vt)).trans vt
    have xg := (hb2.block _ (lt_of_block vg)).trans vg
    have nwn : w1.heap.size ≠ nm := by have := H1.out.size; omega
    have yt : X.heap[t]? = some (.cells [.int .i64 0, .slice none 0 0, .map (some nm), .slice none 0 0].toArray 272 (0, 0)) := by rw [hX, setBlock_other _ _ ntn]; exact xt
    have yg : X.heap[w1.heap.size]? = some (.cells (labCells B) 45 (0, 0)) := by rw [hX, setBlock_other _ _ nwn]; exact xg
    have yo : Only (fun b => b = t ∨ b = nm) w X := by rw [hX]; exact (Only.of_below (vB.trans (hb2.mono vB.size))).setBlk nm _ (.inr rfl)
    clear xn ntn xt xg nwn hX hb2 vB vg vt vn
    go_upto_region 5 with fail
    refine wp_region_facts [.val (.pointer (some ⟨t, 0, none⟩)), .val (.pointer (some ⟨t, 0, none⟩)), .val (.pointer (some ⟨t, 0, none⟩)), .val (.pointer (some ⟨t, 1, none⟩)), .val (.slice none 0 0), .val (.agg (labCells B)), .val (.int .i64 0), .val (.pointer (some ⟨t, 0, none⟩)), .val (.pointer (some ⟨t, 0, none⟩)), .val (.pointer (some ⟨t, 0, none⟩)), .val (.int .i64 0), .val (.agg (modC B 0 0).toArray), .blk (sl 1) (.cells (modC B 0 0).toArray 91 (0, 0)), .more (fun v w' => ∃ g cap, v = .slice (some ⟨g, 0, none⟩) 1 cap ∧ w'.ownsRow X.heap.size 91 32 (.slice (some ⟨g, 0, none⟩) 1 cap) 1 (modC B 0 0)) (fun v w' w'' hb h => by obtain ⟨g, cap, h1, h3⟩ := h; exact ⟨g, cap, h1, ownsRow_below' h3 hb⟩)] (by kernel_rfl) (by kernel_rfl) ?_ ?_
    · simp only [stepsAll, List.take, List.length]
      refine ⟨?_, ?_, ?_, ?_, ?_, ?_, ?_, ?_, ?_, ?_, ?_, ?_, ?_, ?_, ?_⟩
      all_goals first | trivial | (intro a wr hb hf hd)
      all_goals have hf1 : a.tmps[(1 : Nat)]?.getD undef = .pointer (some ⟨t, 0, none⟩) := (hf 1 (by decide +kernel)).trans rfl
      all_goals have hf3 : a.tmps[(3 : Nat)]?.getD undef = .int .i64 0 := (hf 3 (by decide +kernel)).trans rfl
      all_goals have hf11 : a.tmps[(11 : Nat)]?.getD undef = .pointer (some ⟨w1.heap.size, 0, none⟩) := (hf 11 (by decide +kernel)).trans rfl
      · exact grow_tmp _ rfl ⟨hf1, fun h => by cases h⟩
      · exact grow_tmp _ rfl ⟨hf1, fun h => by cases h⟩
      · have h34 : a.tmps[(34 : Nat)]?.getD undef = .pointer (some ⟨t, 0, none⟩) := hd 1 (by simp) (by kernel_rfl)
        exact grow_value (v := .pointer (some ⟨t, 0, none⟩)) (by simp [execOp, h34, go_sem]) (Below.refl _ _) ⟨rfl, fun h => by cases h⟩
      · have h35 : a.tmps[(35 : Nat)]?.getD undef = .pointer (some ⟨t, 0, none⟩) := hd 2 (by simp) (by kernel_rfl)
        exact grow_value (v := .pointer (some ⟨t, 1, none⟩)) (by simp [execOp, h35, go_sem]) (Below.refl _ _) ⟨rfl, fun h => by cases h⟩
      · have h36 : a.tmps[(36 : Nat)]?.getD undef = .pointer (some ⟨t, 1, none⟩) := hd 3 (by simp) (by kernel_rfl)
        have hc := cell_l ((hb.block _ (lt_of_block yt)).trans yt) 1 rfl
        exact grow_value (v := .slice none 0 0) (by simp [execOp, h36, hc, go_sem]) (Below.refl _ _) ⟨rfl, fun h => by cases h⟩
      · exact grow_load_row 11 45 rfl w1.heap.size hf11 _ _ _ _ ((hb.block _ (lt_of_block yg)).trans yg) Tryz.underlying45 rfl (lab_size B) ⟨rfl, fun h => by cases h⟩
      · exact grow_tmp _ rfl ⟨hf3, fun h => by cases h⟩
      · exact grow_tmp _ rfl ⟨hf1, fun h => by cases h⟩
      · have h40 : a.tmps[(40 : Nat)]?.getD undef = .pointer (some ⟨t, 0, none⟩) := hd 7 (by simp) (by kernel_rfl)
        exact grow_value (v := .pointer (some ⟨t, 0, none⟩)) (by simp [execOp, h40, go_sem]) (Below.refl _ _) ⟨rfl, fun h => by cases h⟩
      · have h41 : a.tmps[(41 : Nat)]?.getD undef = .pointer (some ⟨t, 0, none⟩) := hd 8 (by simp) (by kernel_rfl)
        exact grow_value (v := .pointer (some ⟨t, 0, none⟩)) (by simp [execOp, h41, go_sem]) (Below.refl _ _) ⟨rfl, fun h => by cases h⟩
      · have h42 : a.tmps[(42 : Nat)]?.getD undef = .pointer (some ⟨t, 0, none⟩) := hd 9 (by simp) (by kernel_rfl)
        have hc := cell_l ((hb.block _ (lt_of_block yt)).trans yt) 0 rfl
        exact grow_value (v := .int .i64 0) (by simp [execOp, h42, hc, go_sem]) (Below.refl _ _) ⟨rfl, fun h => by cases h⟩
      · have h38 : a.tmps[(38 : Nat)]?.getD undef = .agg (labCells B) := hd 5 (by simp) (by kernel_rfl)
        have h39 : a.tmps[(39 : Nat)]?.getD undef = .int .i64 0 := hd 6 (by simp) (by kernel_rfl)
        have h43 : a.tmps[(43 : Nat)]?.getD undef = .int .i64 0 := hd 10 (by simp) (by kernel_rfl)
        exact grow_value (build_mod B _ _ _ rfl h38 h39 h43) (Below.refl _ _) ⟨rfl, fun h => by cases h⟩
      · have h44 : a.tmps[(44 : Nat)]?.getD undef = .agg (modC B 0 0).toArray := hd 11 (by simp) (by kernel_rfl)
        exact grow_value (buildSlice_mod B _ _ _ rfl h44) ((Below.refl _ _).alloc (Nat.le_refl _) _) ⟨⟨_, rfl, heap_alloc_new _ _⟩, fun _ b hb => new_slice hb⟩
      · have h37 : a.tmps[(37 : Nat)]?.getD undef = .slice none 0 0 := hd 4 (by simp) (by kernel_rfl)
        obtain ⟨q, h45, hq⟩ : ∃ q, a.tmps[(45 : Nat)]?.getD undef = sl 1 q ∧ wr.heap[q]? = some (.cells (modC B 0 0).toArray 91 (0, 0)) := hd 12 (by simp) (by kernel_rfl)
        refine grow_append_nil 37 45 92 91 (.agg zeroMod) 32 568 rfl Tryz.underlying92 info_mod rfl (by omega) q 1 (modC B 0 0) h37 h45 hq (modC_len B 0 0) (modC_one B 0 0) (by omega) ?_
        intro cap w' ho hb'
        exact ⟨⟨_, cap, rfl, ownsRow_lower ho hb.size⟩, fun h => by cases h⟩
    · intro fw w3 hb3 hs hn hne
      have g33 : fw 33 = .pointer (some ⟨t, 0, none⟩) := hs 0 (by simp)
      have g34 : fw 34 = .pointer (some ⟨t, 0, none⟩) := hs 1 (by simp)
      have g35 : fw 35 = .pointer (some ⟨t, 0, none⟩) := hs 2 (by simp)
      have g36 : fw 36 = .pointer (some ⟨t, 1, none⟩) := hs 3 (by simp)
      have g37 : fw 37 = .slice none 0 0 := hs 4 (by simp)
      have g38 : fw 38 = .agg (labCells B) := hs 5 (by simp)
      have g39 : fw 39 = .int .i64 0 := hs 6 (by simp)
      have g40 : fw 40 = .pointer (some ⟨t, 0, none⟩) := hs 7 (by simp)
      have g41 : fw 41 = .pointer (some ⟨t, 0, none⟩) := hs 8 (by simp)
      have g42 : fw 42 = .pointer (some ⟨t, 0, none⟩) := hs 9 (by simp)
      have g43 : fw 43 = .int .i64 0 := hs 10 (by simp)
      have g44 : fw 44 = .agg (modC B 0 0).toArray := hs 11 (by simp)
      obtain ⟨g, cap, g46, hown⟩ : ∃ g cap, fw 46 = .slice (some ⟨g, 0, none⟩) 1 cap ∧ w3.ownsRow X.heap.size 91 32 (.slice (some ⟨g, 0, none⟩) 1 cap) 1 (modC B 0 0) := hs 13 (by simp)
      rw [show (List.range (List.length _)).map (dstOf _) = [33, 34, 35, 36, 37, 38, 39, 40, 41, 42, 43, 44, 45, 46] from by kernel_rfl]
      simp only [actOf, List.foldl, Act.put, List.drop, List.length, g33, g34, g35, g36, g37, g38, g39, g40, g41, g42, g43, g44, g46, List.setIfInBounds_toArray, List.set_cons_zero, List.set_cons_succ]
      clear hs hn hne g33 g34 g35 g36 g37 g38 g39 g40 g41 g42 g43 g44 g46
      have zt := (hb3.block _ (lt_of_block yt)).trans yt
      have c1 := cell_l zt 1 rfl; have f1 := free_in zt 1
      have HZ := Lib.hid (And.intro zt (And.intro (yo.call hb3) (And.intro hown yo.size)))
      clear zt hb3 hown yt yg yo
      go_wp2
      go_ret
      obtain ⟨zt, zo, zown, hsz⟩ := HZ.out
      refine ⟨rfl, zo.setCell _ _ (.inl (.inl rfl)), g, cap, block_set zt 1 _, ?_⟩
      exact ownsRow_lower (ownsRow_other zown _ _ (by obtain ⟨_, _, cur, hcur⟩ := ownsRow_lt zown; simpa [Value.ownBlock] using block_ne hcur zt (by decide))) hsz
end Go.Proofs.YtkbilipgidcgeaaGreatDoor.Tiny

namespace Go.Proofs.YtkbilipgidcgeaaGreatDoor.Tiny
open Go.RowKit Go.ChangeMaps
attribute [local go_sem] ext_cell ext_frozen run_store_func mk_ints0 mk_ints1 mk_ints2 mk_lists0 mk_lists1 mk_lists2 ta_ints run_makeMap

theorem modC_get17 (B : ByteArray) (x y : Int) : (modC B x y)[(17 : Nat)]? = some (.slice none 0 0) := by unfold modC labCells; rfl
theorem modC_get28 (B : ByteArray) (x y : Int) : (modC B x y)[(28 : Nat)]? = some (.int .i64 y) := by unfold modC labCells; rfl
theorem modC_set28 (B : ByteArray) (x y z : Int) : (modC B x y).set 28 (.int .i64 z) = modC B x z := by unfold modC labCells; rfl
attribute [local irreducible] labCells modC

theorem row_cell {w : World} {base : Nat} {e : TypeId} {size g cap : Nat} {n : Nat} {xs : List Value} (h : w.ownsRow base e size (.slice (some ⟨g, 0, none⟩) n cap) n xs) (j : Nat) {u : Value} (hj : xs[j]? = some u) : w.cell? ⟨g, j, none⟩ = some u ∧ w.frozen? ⟨g, j, none⟩ = false := by
  have h1 := h.cells (g := g) rfl j u hj
  rw [addr0] at h1
  obtain ⟨_, _, cur, hcur⟩ := ownsRow_lt h
  exact ⟨h1, free_in hcur j⟩

set_option maxRecDepth 100000 in
set_option maxHeartbeats 1000000 in
theorem lcollect (l s b st : Nat) (B : ByteArray) (hsz : B.size = 256) (w : World) (hl : w.heap[l]? = some (.cells (loaderC s b st (.slice none 0 0) (.slice none 0 0)).toArray 149 (0, 0))) (hs : w.heap[st]? = some (.map #[⟨.string labS, .agg (labCells B), 0⟩] 1)) :
    Calls Tryz.prog 149 #[.pointer (some ⟨l, 0, none⟩), .string labS, .int .i64 0, .bool true] w fun e w' => ∃ t nm g cap, e = .returned (.tuple #[.pointer (some ⟨t, 0, none⟩), .int .i64 0]) ∧ Below w.heap.size w w' ∧
      w'.heap[t]? = some (.cells [.int .i64 0, .slice (some ⟨g, 0, none⟩) 1 cap, .map (some nm), .slice none 0 0].toArray 272 (0, 0)) ∧ w.heap.size ≤ t ∧ w'.ownsRow w.heap.size 91 32 (.slice (some ⟨g, 0, none⟩) 1 cap) 1 (modC B 0 1) := by
  have ll := lt_of_block hl
  have HH := Lib.hid (And.intro hl hs)
  have HS := Lib.hid hsz
  unfold loaderC at hl
  have c4 := cell_l hl 4 rfl
  clear hl hs hsz
  go_enter Tryz.func149, Tryz.ntmps149
  go_wp2_with fail
  refine (ladd l s b st (w.heap.size + 1) w.heap.size (.slice none 0 0) (.slice none 0 0) B HS.out _ (block_old (block_old HH.out.1)) (block_old (block_old HH.out.2)) (heap_alloc2_new _ _ _) (block_old (heap_alloc_new _ _))).mono ?_
  rintro e w1 ⟨rfl, ho1, g, cap, ht1, hown1⟩
  have kB : Below w.heap.size w w1 := ((((Only.refl (fun b => w.heap.size ≤ b) w).alloc _).alloc _).then ho1 (fun b _ hb => by omega)).below (Nat.le_refl _) (fun k h => h)
  have kl := (kB.block _ ll).trans HH.out.1
  have lg := (ownsRow_lt hown1).1
  have lg2 := (ownsRow_lt hown1).2.1
  have ntg : ¬ w.heap.size + 1 = g := by obtain ⟨_, _, cur, hcur⟩ := ownsRow_lt hown1; exact block_ne ht1 hcur (by decide)
  obtain ⟨c28, f28⟩ := row_cell hown1 28 (modC_get28 B 0 0)
  have d1 := cell_l ht1 1 rfl
  have HK := Lib.hid (And.intro kB (And.intro kl (And.intro ht1 (ownsRow_lower hown1 (base' := w.heap.size) (by simp; omega)))))
  clear kB kl ht1 hown1 ho1 c4
  simp at lg
  go_upto_region 6 with fail
  refine name_world fun X hX => ?_
  obtain ⟨kB, kl, ht1, hown1⟩ := HK.out
  have nlg : l ≠ g := by omega
  have xo := ownsRow_setAt hown1 28 (.int .i64 1)
  rw [modC_set28] at xo
  have xB : Below w.heap.size w X := by rw [← hX]; exact ((Only.of_below_le kB (fun k _ h => h) : Only (fun b => w.heap.size ≤ b) w w1).setCell _ _ (.inl (by show w.heap.size ≤ g; omega))).below (Nat.le_refl _) (fun k h => h)
  have xt : X.heap[w.heap.size + 1]? = some (.cells [.int .i64 0, .slice (some ⟨g, 0, none⟩) 1 cap, .map (some w.heap.size), .slice none 0 0].toArray 272 (0, 0)) := by rw [← hX]; exact block_other ht1 _ _ ntg
  have xown : X.ownsRow w.heap.size 91 32 (.slice (some ⟨g, 0, none⟩) 1 cap) 1 (modC B 0 1) := by rw [← hX]; exact xo
  have xl := (xB.block _ ll).trans HH.out.1
  unfold loaderC at xl
  have e4 := cell_l xl 4 rfl
  have e1 := cell_l xt 1 rfl
  have e17 := (row_cell xown 17 (modC_get17 B 0 1)).1
  have HX := Lib.hid (And.intro xB (And.intro xt xown))
  clear kB kl ht1 hown1 xo xB xt xown xl hX HK c28 f28 d1 HH HS
  go_wp2
  refine wp_loop_rounds 2 ?_
  rw [rounds_succ]
  go_wp2
  refine wp_loop_rounds 1 ?_
  rw [rounds_succ]
  go_wp2
  rw [rounds_succ]
  go_wp2
  refine wp_loop_rounds 1 ?_
  rw [rounds_succ]
  go_wp2
  go_ret2
  obtain ⟨xB, xt, xown⟩ := HX.out
  exact ⟨w.heap.size + 1, w.heap.size, g, cap, rfl, xB, xt, by omega, xown⟩
end Go.Proofs.YtkbilipgidcgeaaGreatDoor.Tiny

namespace Go.Proofs.YtkbilipgidcgeaaGreatDoor.Tiny
open Go.RowKit Go.ChangeMaps
attribute [local go_sem] ext_cell ext_frozen run_store_func mk_ints0 mk_ints1 mk_ints2 mk_lists0 mk_lists1 mk_lists2 ta_ints run_makeMap
attribute [local irreducible] labCells modC
attribute [local go_sem] labGet0 labGet1 labGet2 labGet3 labGet4 labGet5 labGet6 labGet7 labGet8 labGet9 labGet10 labGet11 labGet12 labGet13 labGet14 labGet15 labGet16 labGet17 labGet18 labGet19 labGet20 labGet21 labGet22 labGet23 labGet24 labGet25

def areaC (a s k : Int) : List Value := [.int .i64 a, .int .i64 s, .int .i64 k, .int .i64 0, .int .i64 0]

set_option maxRecDepth 100000 in
set_option maxHeartbeats 1000000 in
theorem lareas (B : ByteArray) (w : World) : Calls Tryz.prog 203 #[.int .i64 0, .int .i64 512, .agg (labCells B)] w fun e w' => ∃ g cap, e = .returned (.slice (some ⟨g, 0, none⟩) 2 cap) ∧ Below w.heap.size w w' ∧
      w'.ownsRow w.heap.size 105 5 (.slice (some ⟨g, 0, none⟩) 2 cap) 2 (areaC 512 256 0 ++ areaC 768 256 1) := by
  obtain ⟨i0, hi, hz0, hz1, hz2⟩ := info_parts info_Area
  have HI := Lib.hid (And.intro hi (And.intro hz0 (And.intro hz1 hz2)))
  clear hi hz0 hz1 hz2
  go_enter Tryz.func203, Tryz.ntmps203
  go_upto_region 4 with (at_builtin; refine wpList_append_nil rfl _ _ 136 105 (.agg #[.int .i64 0, .int .i64 0, .int .i64 0, .int .i64 0, .int .i64 0]) 5 40 rfl Tryz.underlying136 info_Area rfl (by omega) (w.heap.size + 1) 1 (areaC 512 256 0) rfl rfl (heap_alloc2_new _ _ _) rfl (by simp [areaC, Value.oneCell']) (by omega) (w.heap.size + 2) (by simp) ?_; intro cap w1 hown1 hb1; have H1 := Lib.hid (And.intro hown1 hb1); clear hown1 hb1)
  obtain ⟨hown1, hb1⟩ := H1.out
  have kl := (hb1.block w.heap.size (by omega)).trans (block_old (o' := .cells (areaC 512 256 0).toArray 105) (heap_alloc_new w (.cells (labCells B) 45)))
  have hsz := hb1.size
  simp at hsz
  have c2 := cell_in (v := .int .i64 256) kl 2 (labGet2 B)
  have c4 := cell_in (v := .int .i64 512) kl 4 (labGet4 B)
  have kB : Below w.heap.size w w1 := (((Below.refl w.heap.size w).alloc (Nat.le_refl _) (.cells (labCells B) 45)).alloc (by simp) (.cells (areaC 512 256 0).toArray 105)).trans (hb1.mono (by omega))
  have HK := Lib.hid (And.intro kB hown1)
  clear hb1 hown1 kl H1 kB
  go_wp2_with (at_builtin; refine wpList_append_lies _ rfl _ _ _ rfl w.heap.size 105 i0 (.agg #[.int .i64 0, .int .i64 0, .int .i64 0, .int .i64 0, .int .i64 0]) 5 40 Tryz.underlying136 HI.out.1 HI.out.2.1 HI.out.2.2.1 HI.out.2.2.2 rfl (by omega) _ 1 (areaC 512 256 0) rfl (ownsRow_lower (ownsRow_below' HK.out.2 ((Below.refl _ _).alloc (Nat.le_refl _) _)) (by omega)) ⟨w1.heap.size, 0, none⟩ 1 1 (areaC 768 256 1) rfl rfl ?c1 ?c2 (by omega) ?c3 ?c4 ?c5 (w1.heap.size + 1) (by simp) ?_)
  case c1 => exact World.news_of_block (cs := (areaC 768 256 1).toArray) (t := 105) (fr := (0, 0)) (heap_alloc_new w1 _)
  case c2 => simp [areaC, Value.oneCell']
  case c3 => unfold maxLen; omega
  case c4 => omega
  case c5 => simp; omega
  intro g2 cap2 w2 hown2 hgrow hat hlt2
  have HG := Lib.hid (And.intro hown2 (And.intro hgrow (And.intro hat hlt2)))
  clear hown2 hgrow hat hlt2
  go_wp2
  go_ret
  obtain ⟨hown2, hgrow, hat, hlt2⟩ := HG.out
  obtain ⟨kB, hown1⟩ := HK.out
  refine ⟨g2, cap2, rfl, ?_, hown2⟩
  have h0 : Only (fun b => w.heap.size ≤ b) w w1 := Only.of_below_le kB (fun k _ h => h)
  have h1 := h0.alloc (.cells (areaC 768 256 1).toArray 105)
  have h2 : Only (fun b => w.heap.size ≤ b) (w1.alloc (.cells (areaC 768 256 1).toArray 105)) w2 :=
    ⟨hgrow.os, hgrow.tape, hgrow.output, hgrow.size, fun k hk hs => hgrow.block k hk (fun e => hs (by simp [Value.ownBlock] at e; subst e; omega))⟩
  exact (h1.trans h2).below (Nat.le_refl _) (fun k h => h)
end Go.Proofs.YtkbilipgidcgeaaGreatDoor.Tiny
