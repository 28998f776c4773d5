/- version.Right of no definition, and of one without parents. version.Right of one definition without parents. image.Right at the image of the example. image.Right at the image of the example: its parts. -/
import Derived.Laws.IdiomStrings
import Derived.Test.YtkbilipgidcgeaaGreatDoorH19
import Derived.Test.YtkbilipgidcgeaaGreatDoorH20
import Derived.Test.YtkbilipgidcgeaaGreatDoorH12
import Derived.Test.YtkbilipgidcgeaaGreatDoorH01
set_option linter.unusedVariables false
set_option linter.unusedSimpArgs false
namespace Go.Proofs.YtkbilipgidcgeaaGreatDoor.Tiny
open Go.RowKit Go.ChangeMaps
attribute [local go_sem] ext_cell ext_frozen run_store_func mk_ints0 mk_ints1 mk_ints2 mk_lists0 mk_lists1 mk_lists2 ta_ints run_makeMap

def labS : ByteArray := ⟨#[116, 105, 110, 121]⟩

set_option maxRecDepth 100000 in
set_option maxHeartbeats 1000000 in
theorem vindex0 (w : World) : Calls Tryz.prog 194 #[.slice none 0 0] w fun e w' => e = .returned (.map (some w.heap.size)) ∧ w' = w.alloc (.map #[] 0) := by
  go_enter Tryz.func194, Tryz.ntmps194
  (go_wp2; repeat (any_goals (first | (refine wp_loop_rounds 2 ?_; rw [rounds_succ]; go_wp2) | (rw [rounds_succ]; go_wp2))))
  go_ret
  exact ⟨rfl, rfl⟩

theorem run_len_map {P : Program} {w : World} {t ty : TypeId} {k e : TypeId} {b c : Nat} {es : Array MapEntry} (ht : P.underlying t = some (.map k e)) (hb : w.heap[b]? = some (.map es c)) :
    (Builtin.len_ #[t] ty #[.map (some b)]).run P w = .ok (.int .i64 es.size) w := by
  simp [Builtin.len_, goInt, run_underlying ht, MapKept.run_getObj_map hb, Result.andThen]

set_option maxRecDepth 100000 in
set_option maxHeartbeats 1000000 in
theorem vright0 (w : World) : Calls Tryz.prog 123 #[.slice none 0 0] w fun e w' => e = .returned (.bool true) ∧ Below w.heap.size w w' := by
  go_enter Tryz.func123, Tryz.ntmps123
  (go_wp2_with (first | (go_at_call 194; refine (vindex0 _).mono ?_; rintro e w1 ⟨rfl, rfl⟩) | (go_at_call 196; refine (loop0 _).mono ?_; rintro e w1 ⟨rfl, hb1⟩; have H1 := Lib.hid hb1; clear hb1)); repeat (any_goals (first | (refine wp_loop_rounds 2 ?_; rw [rounds_succ]; go_wp2_with (first | (go_at_call 194; refine (vindex0 _).mono ?_; rintro e w1 ⟨rfl, rfl⟩) | (go_at_call 196; refine (loop0 _).mono ?_; rintro e w1 ⟨rfl, hb1⟩; have H1 := Lib.hid hb1; clear hb1))) | (rw [rounds_succ]; go_wp2_with (first | (go_at_call 194; refine (vindex0 _).mono ?_; rintro e w1 ⟨rfl, rfl⟩) | (go_at_call 196; refine (loop0 _).mono ?_; rintro e w1 ⟨rfl, hb1⟩; have H1 := Lib.hid hb1; clear hb1))))))
  rw [run_len_map Tryz.underlying269 (heap_alloc_new w (.map #[] 0))]
  have e0 : (#[] : Array MapEntry).size = 0 := rfl
  rw [e0]
  clear e0
  (go_wp2_with (go_at_call 196; refine (loop0 _).mono ?_; rintro e w1 ⟨rfl, hb1⟩; have H1 := Lib.hid hb1; clear hb1); repeat (any_goals (first | (refine wp_loop_rounds 2 ?_; rw [rounds_succ]; go_wp2_with (go_at_call 196; refine (loop0 _).mono ?_; rintro e w1 ⟨rfl, hb1⟩; have H1 := Lib.hid hb1; clear hb1)) | (rw [rounds_succ]; go_wp2_with (go_at_call 196; refine (loop0 _).mono ?_; rintro e w1 ⟨rfl, hb1⟩; have H1 := Lib.hid hb1; clear hb1)))))
  go_ret
  exact ⟨rfl, below_call ((Below.refl _ _).alloc (Nat.le_refl _) _) H1.out⟩

theorem bytesRow_get (s : ByteArray) (K i : Nat) (u : UInt8) (h : s.data[i]? = some u) : (bytesRow s K)[i]? = some (.int .u8 (u.toNat : Int)) := by
  have hi : i < s.data.size := (Array.getElem?_eq_some_iff.1 h).1
  unfold bytesRow
  rw [Array.getElem?_append_left (by simpa using hi)]
  simp only [Array.getElem?_map, h]
  rfl

set_option maxRecDepth 100000 in
set_option maxHeartbeats 1000000 in
theorem vname_lab (w : World) : Calls Tryz.prog 195 #[.string labS] w fun e w' => e = .returned (.bool true) ∧ Below w.heap.size w w' := by
  have hcv := fun (w : World) (s : ByteArray) => run_bytes_of_string (P := Tryz.prog) w 9 76 5 s Tryz.underlying9 Tryz.underlying76 Tryz.underlying5
  have hsz : labS.size = 4 := rfl
  go_enter Tryz.func195, Tryz.ntmps195
  go_wp2
  obtain ⟨K, hK⟩ : ∃ K, K = grownCap w 4 0 5 := ⟨_, rfl⟩
  refine name_world fun W hW => ?_
  have hB0 : ∃ K f, W.heap[w.heap.size]? = some (.cells (bytesRow labS K) 5 f) := by rw [← hW]; exact ⟨_, _, block_drew (heap_alloc_new w _)⟩
  have hBW : Below w.heap.size w W := by rw [← hW]; exact ((Below.refl _ _).alloc (Nat.le_refl _) _).drew
  obtain ⟨K', f, hB0⟩ := hB0
  have c0 := cell_in (v := .int .u8 116) hB0 0 (bytesRow_get labS K' 0 116 rfl)
  have c1 := cell_in (v := .int .u8 105) hB0 1 (bytesRow_get labS K' 1 105 rfl)
  have c2 := cell_in (v := .int .u8 110) hB0 2 (bytesRow_get labS K' 2 110 rfl)
  have c3 := cell_in (v := .int .u8 121) hB0 3 (bytesRow_get labS K' 3 121 rfl)
  have HW := Lib.hid hBW
  clear hB0 hBW hW hcv hK
  refine wp_loop_rounds 5 ?_
  rw [rounds_succ]
  go_wp2
  rw [rounds_succ]
  go_wp2
  rw [rounds_succ]
  go_wp2
  rw [rounds_succ]
  go_wp2
  rw [rounds_succ]
  go_wp2
  go_ret
  exact ⟨rfl, HW.out⟩
end Go.Proofs.YtkbilipgidcgeaaGreatDoor.Tiny

namespace Go.Proofs.YtkbilipgidcgeaaGreatDoor.Tiny
open Go.RowKit Go.ChangeMaps
attribute [local go_sem] ext_cell ext_frozen run_store_func mk_ints0 mk_ints1 mk_ints2 mk_lists0 mk_lists1 mk_lists2 ta_ints run_makeMap

theorem zero_int (w : World) : (zeroValue 3).run Tryz.prog w = .ok (.int .i64 0) w := by kernel_rfl

set_option maxRecDepth 100000 in
set_option maxHeartbeats 1000000 in
theorem vindex1 (g : Nat) (w : World) (hg : w.heap[g]? = some (.cells [.string labS, .slice none 0 0].toArray 319 (0, 0))) :
    Calls Tryz.prog 194 #[.slice (some ⟨g, 0, none⟩) 1 1] w fun e w' => e = .returned (.map (some w.heap.size)) ∧ Below w.heap.size w w' ∧ w'.heap[w.heap.size]? = some (.map #[⟨.string labS, .int .i64 0, 0⟩] 1) := by
  have lg := lt_of_block hg
  have c0 := cell_l hg 0 rfl
  have c1 := cell_l hg 1 rfl
  clear hg
  have hM : ((w.alloc (.map #[] 0)).alloc (.cells #[.string labS, .slice none 0 0] 319)).heap[w.heap.size]? = some (.map #[] 0) := block_old (heap_alloc_new _ _)
  have hl := map_look (P := Tryz.prog) (key := .string labS) true Tryz.underlying269 hM Tryz.underlying9 trivial (zero_int _) rfl
  have hu := map_new (P := Tryz.prog) (key := .string labS) (val := .int .i64 0) Tryz.underlying269 hM Tryz.underlying9 trivial rfl
  simp only [if_true] at hl
  have HM := Lib.hid hM
  clear hM
  go_enter Tryz.func194, Tryz.ntmps194
  go_wp2
  refine wp_loop_rounds 2 ?_
  rw [rounds_succ]
  go_wp2
  rw [rounds_succ]
  go_wp2
  go_ret
  refine ⟨rfl, ?_, setBlock_same (by simp; omega) _⟩
  refine ⟨rfl, rfl, rfl, by simp [setBlock]; omega, fun k hk => ?_⟩
  rw [setBlock_other _ _ (by omega)]
  exact (((Below.refl _ _).alloc (Nat.le_refl _) _).alloc (by simp) _).block k hk

set_option maxRecDepth 100000 in
set_option maxHeartbeats 1000000 in
theorem vright1 (g : Nat) (w : World) (hg : w.heap[g]? = some (.cells [.string labS, .slice none 0 0].toArray 319 (0, 0))) :
    Calls Tryz.prog 123 #[.slice (some ⟨g, 0, none⟩) 1 1] w fun e w' => e = .returned (.bool true) ∧ Below w.heap.size w w' := by
  have lg := lt_of_block hg
  have HG := Lib.hid hg
  clear hg
  go_enter Tryz.func123, Tryz.ntmps123
  go_wp2_with (go_at_call 194; refine (vindex1 g _ HG.out).mono ?_; rintro e w1 ⟨rfl, hb1, hm1⟩; have H1 := Lib.hid (And.intro hb1 hm1); clear hb1 hm1)
  rw [run_len_map Tryz.underlying269 H1.out.2]
  have e0 : (#[⟨.string labS, .int .i64 0, 0⟩] : Array MapEntry).size = 1 := rfl
  rw [e0]
  clear e0
  have k1 := (H1.out.1.block g lg).trans HG.out
  have c0 := cell_l k1 0 rfl
  have c1 := cell_l k1 1 rfl
  have l1 := lt_of_block k1
  clear k1
  go_wp2
  refine wp_loop_rounds 2 ?_
  rw [rounds_succ]
  go_wp2
  refine wp_loop_rounds 1 ?_
  rw [rounds_succ]
  go_wp2_with (go_at_call 195; refine (vname_lab _).mono ?_; rintro e w2 ⟨rfl, hb2⟩; have H2 := Lib.hid hb2; clear hb2)
  rw [rounds_succ]
  go_wp2_with (go_at_call 196; refine (loop1 _).mono ?_; rintro e w3 ⟨rfl, hb3⟩; have H3 := Lib.hid hb3; clear hb3)
  go_ret
  have s1 := H1.out.1.size
  have s2 := H2.out.size
  simp at s2
  exact ⟨rfl, (((H1.out.1.alloc (by omega) _).alloc (by simp; omega) _).trans (H2.out.mono (by simp; omega))).trans (H3.out.mono (by omega))⟩

set_option maxRecDepth 100000 in
theorem iname_lab (w : World) : Calls Tryz.prog 107 #[.string labS] w fun e w' => e = .returned (.bool true) ∧ Below w.heap.size w w' := by
  go_enter Tryz.func107, Tryz.ntmps107
  go_wp2_with (go_at_call 123; refine (vright1 w.heap.size _ (heap_alloc_new _ _)).mono ?_; rintro e w1 ⟨rfl, hb1⟩; have H1 := Lib.hid hb1; clear hb1)
  go_ret
  exact ⟨rfl, below_call ((Below.refl _ _).alloc (Nat.le_refl _) _) H1.out⟩
end Go.Proofs.YtkbilipgidcgeaaGreatDoor.Tiny

namespace Go.Proofs.YtkbilipgidcgeaaGreatDoor.Tiny
open Go.RowKit Go.ChangeMaps
attribute [local go_sem] ext_cell ext_frozen run_store_func mk_ints0 mk_ints1 mk_ints2 mk_lists0 mk_lists1 mk_lists2 ta_ints run_makeMap

def nilS : Value := .slice none 0 0
/-- The image of the example: its bytes alone are open. -/
def labCells (B : ByteArray) : Array Value := #[.string labS, .bool false, .int .i64 256, .int .i64 256, .int .i64 512, .string B, .string ⟨#[]⟩, .int .i64 0, .slice none 0 0, .slice none 0 0, .slice none 0 0, .slice none 0 0, .slice none 0 0, .slice none 0 0, .slice none 0 0, .slice none 0 0,
  .int .i64 0, .slice none 0 0, .slice none 0 0, .slice none 0 0, .slice none 0 0, .slice none 0 0, .slice none 0 0, .slice none 0 0, .slice none 0 0, .slice none 0 0]

theorem all_int (f : Value) (w : World) : Calls Tryz.prog 103 #[.slice none 0 0, f] w fun e w' => e = .returned (.bool true) ∧ w = w' := by
  go_enter Tryz.func103, Tryz.ntmps103
  (go_wp2; repeat (any_goals (first | (refine wp_loop_rounds 2 ?_; rw [rounds_succ]; go_wp2) | (rw [rounds_succ]; go_wp2))))
  go_ret
  exact ⟨rfl, rfl⟩

theorem all_Placed (f : Value) (w : World) : Calls Tryz.prog 108 #[.slice none 0 0, f] w fun e w' => e = .returned (.bool true) ∧ w = w' := by
  go_enter Tryz.func108, Tryz.ntmps108
  (go_wp2; repeat (any_goals (first | (refine wp_loop_rounds 2 ?_; rw [rounds_succ]; go_wp2) | (rw [rounds_succ]; go_wp2))))
  go_ret
  exact ⟨rfl, rfl⟩

theorem all_Export (f : Value) (w : World) : Calls Tryz.prog 114 #[.slice none 0 0, f] w fun e w' => e = .returned (.bool true) ∧ w = w' := by
  go_enter Tryz.func114, Tryz.ntmps114
  (go_wp2; repeat (any_goals (first | (refine wp_loop_rounds 2 ?_; rw [rounds_succ]; go_wp2) | (rw [rounds_succ]; go_wp2))))
  go_ret
  exact ⟨rfl, rfl⟩

theorem all_Import (f : Value) (w : World) : Calls Tryz.prog 119 #[.slice none 0 0, f] w fun e w' => e = .returned (.bool true) ∧ w = w' := by
  go_enter Tryz.func119, Tryz.ntmps119
  (go_wp2; repeat (any_goals (first | (refine wp_loop_rounds 2 ?_; rw [rounds_succ]; go_wp2) | (rw [rounds_succ]; go_wp2))))
  go_ret
  exact ⟨rfl, rfl⟩

theorem all_string (f : Value) (w : World) : Calls Tryz.prog 124 #[.slice none 0 0, f] w fun e w' => e = .returned (.bool true) ∧ w = w' := by
  go_enter Tryz.func124, Tryz.ntmps124
  (go_wp2; repeat (any_goals (first | (refine wp_loop_rounds 2 ?_; rw [rounds_succ]; go_wp2) | (rw [rounds_succ]; go_wp2))))
  go_ret
  exact ⟨rfl, rfl⟩

theorem all_Mark (f : Value) (w : World) : Calls Tryz.prog 126 #[.slice none 0 0, f] w fun e w' => e = .returned (.bool true) ∧ w = w' := by
  go_enter Tryz.func126, Tryz.ntmps126
  (go_wp2; repeat (any_goals (first | (refine wp_loop_rounds 2 ?_; rw [rounds_succ]; go_wp2) | (rw [rounds_succ]; go_wp2))))
  go_ret
  exact ⟨rfl, rfl⟩

theorem all_Line (f : Value) (w : World) : Calls Tryz.prog 129 #[.slice none 0 0, f] w fun e w' => e = .returned (.bool true) ∧ w = w' := by
  go_enter Tryz.func129, Tryz.ntmps129
  (go_wp2; repeat (any_goals (first | (refine wp_loop_rounds 2 ?_; rw [rounds_succ]; go_wp2) | (rw [rounds_succ]; go_wp2))))
  go_ret
  exact ⟨rfl, rfl⟩

theorem all_Span (f : Value) (w : World) : Calls Tryz.prog 131 #[.slice none 0 0, f] w fun e w' => e = .returned (.bool true) ∧ w = w' := by
  go_enter Tryz.func131, Tryz.ntmps131
  (go_wp2; repeat (any_goals (first | (refine wp_loop_rounds 2 ?_; rw [rounds_succ]; go_wp2) | (rw [rounds_succ]; go_wp2))))
  go_ret
  exact ⟨rfl, rfl⟩

theorem all_Inline (f : Value) (w : World) : Calls Tryz.prog 135 #[.slice none 0 0, f] w fun e w' => e = .returned (.bool true) ∧ w = w' := by
  go_enter Tryz.func135, Tryz.ntmps135
  (go_wp2; repeat (any_goals (first | (refine wp_loop_rounds 2 ?_; rw [rounds_succ]; go_wp2) | (rw [rounds_succ]; go_wp2))))
  go_ret
  exact ⟨rfl, rfl⟩

theorem all_Var (f : Value) (w : World) : Calls Tryz.prog 139 #[.slice none 0 0, f] w fun e w' => e = .returned (.bool true) ∧ w = w' := by
  go_enter Tryz.func139, Tryz.ntmps139
  (go_wp2; repeat (any_goals (first | (refine wp_loop_rounds 2 ?_; rw [rounds_succ]; go_wp2) | (rw [rounds_succ]; go_wp2))))
  go_ret
  exact ⟨rfl, rfl⟩

theorem all_Depth (f : Value) (w : World) : Calls Tryz.prog 143 #[.slice none 0 0, f] w fun e w' => e = .returned (.bool true) ∧ w = w' := by
  go_enter Tryz.func143, Tryz.ntmps143
  (go_wp2; repeat (any_goals (first | (refine wp_loop_rounds 2 ?_; rw [rounds_succ]; go_wp2) | (rw [rounds_succ]; go_wp2))))
  go_ret
  exact ⟨rfl, rfl⟩

theorem all_Conv (f : Value) (w : World) : Calls Tryz.prog 145 #[.slice none 0 0, f] w fun e w' => e = .returned (.bool true) ∧ w = w' := by
  go_enter Tryz.func145, Tryz.ntmps145
  (go_wp2; repeat (any_goals (first | (refine wp_loop_rounds 2 ?_; rw [rounds_succ]; go_wp2) | (rw [rounds_succ]; go_wp2))))
  go_ret
  exact ⟨rfl, rfl⟩

theorem between_any (n lo hi : Int) (w : World) : Calls Tryz.prog 106 #[.int .i64 n, .int .i64 lo, .int .i64 hi] w fun e w' => e = .returned (.bool (decide (lo ≤ n) && decide (n ≤ hi))) ∧ w = w' := by
  by_cases h1 : lo ≤ n
  · by_cases h2 : n ≤ hi
    · go_enter Tryz.func106, Tryz.ntmps106
      go_wp2
      go_ret
      exact ⟨by simp [h1, h2], rfl⟩
    · go_enter Tryz.func106, Tryz.ntmps106
      go_wp2
      go_ret
      exact ⟨by simp [h1, h2], rfl⟩
  · go_enter Tryz.func106, Tryz.ntmps106
    go_wp2
    go_ret
    exact ⟨by have h3 : decide (lo ≤ n) = false := by simpa using h1
              rw [h3]; rfl, rfl⟩

theorem sizes1 (i n : Int) (w : World) (h : n = 256 ∨ n = 512) : Calls Tryz.prog 104 #[.int .i64 i, .int .i64 n] w fun e w' => e = .returned (.bool true) ∧ w = w' := by
  rcases h with rfl | rfl
  all_goals
    go_enter Tryz.func104, Tryz.ntmps104
    go_wp2_with (go_at_call 105; refine (up_any _ _ _ (by omega) (by omega) (by omega) (by omega)).mono ?_; rintro e w1 ⟨rfl, rfl⟩)
    go_ret
    exact ⟨by simp [upI], rfl⟩

set_option maxRecDepth 100000 in
set_option maxHeartbeats 1000000 in
theorem all_sizes (g : Nat) (w : World) (h0 : w.cell? ⟨g, 0, none⟩ = some (.int .i64 256)) (h1 : w.cell? ⟨g, 1, none⟩ = some (.int .i64 256)) (h2 : w.cell? ⟨g, 2, none⟩ = some (.int .i64 512)) :
    Calls Tryz.prog 103 #[.slice (some ⟨g, 0, none⟩) 3 3, .func (.func 104) #[] #[]] w fun e w' => e = .returned (.bool true) ∧ w = w' := by
  go_enter Tryz.func103, Tryz.ntmps103
  go_wp2
  refine wp_loop_rounds 4 ?_
  rw [rounds_succ]
  go_wp2_with (go_at_call 104; refine (sizes1 _ _ _ (by omega)).mono ?_; rintro e w1 ⟨rfl, rfl⟩)
  rw [rounds_succ]
  go_wp2_with (go_at_call 104; refine (sizes1 _ _ _ (by omega)).mono ?_; rintro e w1 ⟨rfl, rfl⟩)
  rw [rounds_succ]
  go_wp2_with (go_at_call 104; refine (sizes1 _ _ _ (by omega)).mono ?_; rintro e w1 ⟨rfl, rfl⟩)
  rw [rounds_succ]
  go_wp2
  go_ret
  exact ⟨rfl, rfl⟩
end Go.Proofs.YtkbilipgidcgeaaGreatDoor.Tiny

namespace Go.Proofs.YtkbilipgidcgeaaGreatDoor.Tiny
open Go.RowKit Go.ChangeMaps
attribute [local go_sem] ext_cell ext_frozen run_store_func mk_ints0 mk_ints1 mk_ints2 mk_lists0 mk_lists1 mk_lists2 ta_ints run_makeMap

set_option maxRecDepth 100000 in
set_option maxHeartbeats 1000000 in
theorem isizes (B : ByteArray) (hB : B.size = 256) (w : World) : Calls Tryz.prog 54 #[.agg (labCells B)] w fun e w' => e = .returned (.bool true) ∧ Below w.heap.size w w' := by
  have HB := Lib.hid hB
  have hl : (B.size : Int) = 256 := by omega
  clear hB
  unfold labCells
  go_enter Tryz.func54, Tryz.ntmps54
  go_wp2_with (first
    | (go_at_call 106; refine (between_any _ _ _ _).mono ?_; rintro e wz ⟨rfl, rfl⟩)
    | (go_at_call 103; refine (all_sizes _ _ (by simp [go_sem]) (by simp [go_sem]) (by simp [go_sem])).mono ?_; rintro e wz ⟨rfl, rfl⟩)
    | (go_at_call 107; refine (iname_lab _).mono ?_; rintro e w1 ⟨rfl, hb1⟩; have H1 := Lib.hid hb1; clear hb1))
  go_ret
  exact ⟨by simp, below_call (by go_grown) H1.out⟩

set_option maxRecDepth 100000 in
set_option maxHeartbeats 1000000 in
theorem iinstruction (B : ByteArray) (w : World) : Calls Tryz.prog 112 #[.agg (labCells B), .int .i64 0] w fun e w' => e = .returned (.bool true) ∧ Below w.heap.size w w' := by
  unfold labCells
  go_enter Tryz.func112, Tryz.ntmps112
  go_wp2_with (go_at_call 106; refine (between_any _ _ _ _).mono ?_; rintro e wz ⟨rfl, rfl⟩)
  go_ret
  exact ⟨by simp, by go_grown⟩

set_option maxRecDepth 100000 in
set_option maxHeartbeats 1000000 in
theorem iexports (B : ByteArray) (w : World) : Calls Tryz.prog 56 #[.agg (labCells B)] w fun e w' => e = .returned (.bool true) ∧ Below w.heap.size w w' := by
  unfold labCells
  go_enter Tryz.func56, Tryz.ntmps56
  (go_wp2_with (first | (go_at_call 106; refine (between_any _ _ _ _).mono ?_; rintro e wz ⟨rfl, rfl⟩) | (go_at_call 103; refine (all_int _ _).mono ?_; rintro e wz ⟨rfl, rfl⟩) | (go_at_call 108; refine (all_Placed _ _).mono ?_; rintro e wz ⟨rfl, rfl⟩) | (go_at_call 114; refine (all_Export _ _).mono ?_; rintro e wz ⟨rfl, rfl⟩) | (go_at_call 119; refine (all_Import _ _).mono ?_; rintro e wz ⟨rfl, rfl⟩) | (go_at_call 124; refine (all_string _ _).mono ?_; rintro e wz ⟨rfl, rfl⟩) | (go_at_call 126; refine (all_Mark _ _).mono ?_; rintro e wz ⟨rfl, rfl⟩) | (go_at_call 129; refine (all_Line _ _).mono ?_; rintro e wz ⟨rfl, rfl⟩) | (go_at_call 131; refine (all_Span _ _).mono ?_; rintro e wz ⟨rfl, rfl⟩) | (go_at_call 135; refine (all_Inline _ _).mono ?_; rintro e wz ⟨rfl, rfl⟩) | (go_at_call 139; refine (all_Var _ _).mono ?_; rintro e wz ⟨rfl, rfl⟩) | (go_at_call 143; refine (all_Depth _ _).mono ?_; rintro e wz ⟨rfl, rfl⟩) | (go_at_call 145; refine (all_Conv _ _).mono ?_; rintro e wz ⟨rfl, rfl⟩) | go_in); repeat (any_goals (first | (refine wp_loop_rounds 2 ?_; rw [rounds_succ]; go_wp2_with (first | (go_at_call 106; refine (between_any _ _ _ _).mono ?_; rintro e wz ⟨rfl, rfl⟩) | (go_at_call 103; refine (all_int _ _).mono ?_; rintro e wz ⟨rfl, rfl⟩) | (go_at_call 108; refine (all_Placed _ _).mono ?_; rintro e wz ⟨rfl, rfl⟩) | (go_at_call 114; refine (all_Export _ _).mono ?_; rintro e wz ⟨rfl, rfl⟩) | (go_at_call 119; refine (all_Import _ _).mono ?_; rintro e wz ⟨rfl, rfl⟩) | (go_at_call 124; refine (all_string _ _).mono ?_; rintro e wz ⟨rfl, rfl⟩) | (go_at_call 126; refine (all_Mark _ _).mono ?_; rintro e wz ⟨rfl, rfl⟩) | (go_at_call 129; refine (all_Line _ _).mono ?_; rintro e wz ⟨rfl, rfl⟩) | (go_at_call 131; refine (all_Span _ _).mono ?_; rintro e wz ⟨rfl, rfl⟩) | (go_at_call 135; refine (all_Inline _ _).mono ?_; rintro e wz ⟨rfl, rfl⟩) | (go_at_call 139; refine (all_Var _ _).mono ?_; rintro e wz ⟨rfl, rfl⟩) | (go_at_call 143; refine (all_Depth _ _).mono ?_; rintro e wz ⟨rfl, rfl⟩) | (go_at_call 145; refine (all_Conv _ _).mono ?_; rintro e wz ⟨rfl, rfl⟩) | go_in)) | (rw [rounds_succ]; go_wp2_with (first | (go_at_call 106; refine (between_any _ _ _ _).mono ?_; rintro e wz ⟨rfl, rfl⟩) | (go_at_call 103; refine (all_int _ _).mono ?_; rintro e wz ⟨rfl, rfl⟩) | (go_at_call 108; refine (all_Placed _ _).mono ?_; rintro e wz ⟨rfl, rfl⟩) | (go_at_call 114; refine (all_Export _ _).mono ?_; rintro e wz ⟨rfl, rfl⟩) | (go_at_call 119; refine (all_Import _ _).mono ?_; rintro e wz ⟨rfl, rfl⟩) | (go_at_call 124; refine (all_string _ _).mono ?_; rintro e wz ⟨rfl, rfl⟩) | (go_at_call 126; refine (all_Mark _ _).mono ?_; rintro e wz ⟨rfl, rfl⟩) | (go_at_call 129; refine (all_Line _ _).mono ?_; rintro e wz ⟨rfl, rfl⟩) | (go_at_call 131; refine (all_Span _ _).mono ?_; rintro e wz ⟨rfl, rfl⟩) | (go_at_call 135; refine (all_Inline _ _).mono ?_; rintro e wz ⟨rfl, rfl⟩) | (go_at_call 139; refine (all_Var _ _).mono ?_; rintro e wz ⟨rfl, rfl⟩) | (go_at_call 143; refine (all_Depth _ _).mono ?_; rintro e wz ⟨rfl, rfl⟩) | (go_at_call 145; refine (all_Conv _ _).mono ?_; rintro e wz ⟨rfl, rfl⟩) | go_in)))))
  go_ret
  exact ⟨by simp, by go_grown⟩

set_option maxRecDepth 100000 in
set_option maxHeartbeats 1000000 in
theorem iimports (B : ByteArray) (w : World) : Calls Tryz.prog 57 #[.agg (labCells B)] w fun e w' => e = .returned (.bool true) ∧ Below w.heap.size w w' := by
  unfold labCells
  go_enter Tryz.func57, Tryz.ntmps57
  (go_wp2_with (first | (go_at_call 106; refine (between_any _ _ _ _).mono ?_; rintro e wz ⟨rfl, rfl⟩) | (go_at_call 103; refine (all_int _ _).mono ?_; rintro e wz ⟨rfl, rfl⟩) | (go_at_call 108; refine (all_Placed _ _).mono ?_; rintro e wz ⟨rfl, rfl⟩) | (go_at_call 114; refine (all_Export _ _).mono ?_; rintro e wz ⟨rfl, rfl⟩) | (go_at_call 119; refine (all_Import _ _).mono ?_; rintro e wz ⟨rfl, rfl⟩) | (go_at_call 124; refine (all_string _ _).mono ?_; rintro e wz ⟨rfl, rfl⟩) | (go_at_call 126; refine (all_Mark _ _).mono ?_; rintro e wz ⟨rfl, rfl⟩) | (go_at_call 129; refine (all_Line _ _).mono ?_; rintro e wz ⟨rfl, rfl⟩) | (go_at_call 131; refine (all_Span _ _).mono ?_; rintro e wz ⟨rfl, rfl⟩) | (go_at_call 135; refine (all_Inline _ _).mono ?_; rintro e wz ⟨rfl, rfl⟩) | (go_at_call 139; refine (all_Var _ _).mono ?_; rintro e wz ⟨rfl, rfl⟩) | (go_at_call 143; refine (all_Depth _ _).mono ?_; rintro e wz ⟨rfl, rfl⟩) | (go_at_call 145; refine (all_Conv _ _).mono ?_; rintro e wz ⟨rfl, rfl⟩) | go_in); repeat (any_goals (first | (refine wp_loop_rounds 2 ?_; rw [rounds_succ]; go_wp2_with (first | (go_at_call 106; refine (between_any _ _ _ _).mono ?_; rintro e wz ⟨rfl, rfl⟩) | (go_at_call 103; refine (all_int _ _).mono ?_; rintro e wz ⟨rfl, rfl⟩) | (go_at_call 108; refine (all_Placed _ _).mono ?_; rintro e wz ⟨rfl, rfl⟩) | (go_at_call 114; refine (all_Export _ _).mono ?_; rintro e wz ⟨rfl, rfl⟩) | (go_at_call 119; refine (all_Import _ _).mono ?_; rintro e wz ⟨rfl, rfl⟩) | (go_at_call 124; refine (all_string _ _).mono ?_; rintro e wz ⟨rfl, rfl⟩) | (go_at_call 126; refine (all_Mark _ _).mono ?_; rintro e wz ⟨rfl, rfl⟩) | (go_at_call 129; refine (all_Line _ _).mono ?_; rintro e wz ⟨rfl, rfl⟩) | (go_at_call 131; refine (all_Span _ _).mono ?_; rintro e wz ⟨rfl, rfl⟩) | (go_at_call 135; refine (all_Inline _ _).mono ?_; rintro e wz ⟨rfl, rfl⟩) | (go_at_call 139; refine (all_Var _ _).mono ?_; rintro e wz ⟨rfl, rfl⟩) | (go_at_call 143; refine (all_Depth _ _).mono ?_; rintro e wz ⟨rfl, rfl⟩) | (go_at_call 145; refine (all_Conv _ _).mono ?_; rintro e wz ⟨rfl, rfl⟩) | go_in)) | (rw [rounds_succ]; go_wp2_with (first | (go_at_call 106; refine (between_any _ _ _ _).mono ?_; rintro e wz ⟨rfl, rfl⟩) | (go_at_call 103; refine (all_int _ _).mono ?_; rintro e wz ⟨rfl, rfl⟩) | (go_at_call 108; refine (all_Placed _ _).mono ?_; rintro e wz ⟨rfl, rfl⟩) | (go_at_call 114; refine (all_Export _ _).mono ?_; rintro e wz ⟨rfl, rfl⟩) | (go_at_call 119; refine (all_Import _ _).mono ?_; rintro e wz ⟨rfl, rfl⟩) | (go_at_call 124; refine (all_string _ _).mono ?_; rintro e wz ⟨rfl, rfl⟩) | (go_at_call 126; refine (all_Mark _ _).mono ?_; rintro e wz ⟨rfl, rfl⟩) | (go_at_call 129; refine (all_Line _ _).mono ?_; rintro e wz ⟨rfl, rfl⟩) | (go_at_call 131; refine (all_Span _ _).mono ?_; rintro e wz ⟨rfl, rfl⟩) | (go_at_call 135; refine (all_Inline _ _).mono ?_; rintro e wz ⟨rfl, rfl⟩) | (go_at_call 139; refine (all_Var _ _).mono ?_; rintro e wz ⟨rfl, rfl⟩) | (go_at_call 143; refine (all_Depth _ _).mono ?_; rintro e wz ⟨rfl, rfl⟩) | (go_at_call 145; refine (all_Conv _ _).mono ?_; rintro e wz ⟨rfl, rfl⟩) | go_in)))))
  go_ret
  exact ⟨by simp, by go_grown⟩

set_option maxRecDepth 100000 in
set_option maxHeartbeats 1000000 in
theorem idyns (B : ByteArray) (w : World) : Calls Tryz.prog 58 #[.agg (labCells B)] w fun e w' => e = .returned (.bool true) ∧ Below w.heap.size w w' := by
  unfold labCells
  go_enter Tryz.func58, Tryz.ntmps58
  (go_wp2_with (first | (go_at_call 106; refine (between_any _ _ _ _).mono ?_; rintro e wz ⟨rfl, rfl⟩) | (go_at_call 103; refine (all_int _ _).mono ?_; rintro e wz ⟨rfl, rfl⟩) | (go_at_call 108; refine (all_Placed _ _).mono ?_; rintro e wz ⟨rfl, rfl⟩) | (go_at_call 114; refine (all_Export _ _).mono ?_; rintro e wz ⟨rfl, rfl⟩) | (go_at_call 119; refine (all_Import _ _).mono ?_; rintro e wz ⟨rfl, rfl⟩) | (go_at_call 124; refine (all_string _ _).mono ?_; rintro e wz ⟨rfl, rfl⟩) | (go_at_call 126; refine (all_Mark _ _).mono ?_; rintro e wz ⟨rfl, rfl⟩) | (go_at_call 129; refine (all_Line _ _).mono ?_; rintro e wz ⟨rfl, rfl⟩) | (go_at_call 131; refine (all_Span _ _).mono ?_; rintro e wz ⟨rfl, rfl⟩) | (go_at_call 135; refine (all_Inline _ _).mono ?_; rintro e wz ⟨rfl, rfl⟩) | (go_at_call 139; refine (all_Var _ _).mono ?_; rintro e wz ⟨rfl, rfl⟩) | (go_at_call 143; refine (all_Depth _ _).mono ?_; rintro e wz ⟨rfl, rfl⟩) | (go_at_call 145; refine (all_Conv _ _).mono ?_; rintro e wz ⟨rfl, rfl⟩) | go_in); repeat (any_goals (first | (refine wp_loop_rounds 2 ?_; rw [rounds_succ]; go_wp2_with (first | (go_at_call 106; refine (between_any _ _ _ _).mono ?_; rintro e wz ⟨rfl, rfl⟩) | (go_at_call 103; refine (all_int _ _).mono ?_; rintro e wz ⟨rfl, rfl⟩) | (go_at_call 108; refine (all_Placed _ _).mono ?_; rintro e wz ⟨rfl, rfl⟩) | (go_at_call 114; refine (all_Export _ _).mono ?_; rintro e wz ⟨rfl, rfl⟩) | (go_at_call 119; refine (all_Import _ _).mono ?_; rintro e wz ⟨rfl, rfl⟩) | (go_at_call 124; refine (all_string _ _).mono ?_; rintro e wz ⟨rfl, rfl⟩) | (go_at_call 126; refine (all_Mark _ _).mono ?_; rintro e wz ⟨rfl, rfl⟩) | (go_at_call 129; refine (all_Line _ _).mono ?_; rintro e wz ⟨rfl, rfl⟩) | (go_at_call 131; refine (all_Span _ _).mono ?_; rintro e wz ⟨rfl, rfl⟩) | (go_at_call 135; refine (all_Inline _ _).mono ?_; rintro e wz ⟨rfl, rfl⟩) | (go_at_call 139; refine (all_Var _ _).mono ?_; rintro e wz ⟨rfl, rfl⟩) | (go_at_call 143; refine (all_Depth _ _).mono ?_; rintro e wz ⟨rfl, rfl⟩) | (go_at_call 145; refine (all_Conv _ _).mono ?_; rintro e wz ⟨rfl, rfl⟩) | go_in)) | (rw [rounds_succ]; go_wp2_with (first | (go_at_call 106; refine (between_any _ _ _ _).mono ?_; rintro e wz ⟨rfl, rfl⟩) | (go_at_call 103; refine (all_int _ _).mono ?_; rintro e wz ⟨rfl, rfl⟩) | (go_at_call 108; refine (all_Placed _ _).mono ?_; rintro e wz ⟨rfl, rfl⟩) | (go_at_call 114; refine (all_Export _ _).mono ?_; rintro e wz ⟨rfl, rfl⟩) | (go_at_call 119; refine (all_Import _ _).mono ?_; rintro e wz ⟨rfl, rfl⟩) | (go_at_call 124; refine (all_string _ _).mono ?_; rintro e wz ⟨rfl, rfl⟩) | (go_at_call 126; refine (all_Mark _ _).mono ?_; rintro e wz ⟨rfl, rfl⟩) | (go_at_call 129; refine (all_Line _ _).mono ?_; rintro e wz ⟨rfl, rfl⟩) | (go_at_call 131; refine (all_Span _ _).mono ?_; rintro e wz ⟨rfl, rfl⟩) | (go_at_call 135; refine (all_Inline _ _).mono ?_; rintro e wz ⟨rfl, rfl⟩) | (go_at_call 139; refine (all_Var _ _).mono ?_; rintro e wz ⟨rfl, rfl⟩) | (go_at_call 143; refine (all_Depth _ _).mono ?_; rintro e wz ⟨rfl, rfl⟩) | (go_at_call 145; refine (all_Conv _ _).mono ?_; rintro e wz ⟨rfl, rfl⟩) | go_in)))))
  go_ret
  exact ⟨by simp, by go_grown⟩

set_option maxRecDepth 100000 in
set_option maxHeartbeats 1000000 in
theorem ichanges (B : ByteArray) (w : World) : Calls Tryz.prog 62 #[.agg (labCells B)] w fun e w' => e = .returned (.bool true) ∧ Below w.heap.size w w' := by
  unfold labCells
  go_enter Tryz.func62, Tryz.ntmps62
  (go_wp2_with (first | (go_at_call 106; refine (between_any _ _ _ _).mono ?_; rintro e wz ⟨rfl, rfl⟩) | (go_at_call 103; refine (all_int _ _).mono ?_; rintro e wz ⟨rfl, rfl⟩) | (go_at_call 108; refine (all_Placed _ _).mono ?_; rintro e wz ⟨rfl, rfl⟩) | (go_at_call 114; refine (all_Export _ _).mono ?_; rintro e wz ⟨rfl, rfl⟩) | (go_at_call 119; refine (all_Import _ _).mono ?_; rintro e wz ⟨rfl, rfl⟩) | (go_at_call 124; refine (all_string _ _).mono ?_; rintro e wz ⟨rfl, rfl⟩) | (go_at_call 126; refine (all_Mark _ _).mono ?_; rintro e wz ⟨rfl, rfl⟩) | (go_at_call 129; refine (all_Line _ _).mono ?_; rintro e wz ⟨rfl, rfl⟩) | (go_at_call 131; refine (all_Span _ _).mono ?_; rintro e wz ⟨rfl, rfl⟩) | (go_at_call 135; refine (all_Inline _ _).mono ?_; rintro e wz ⟨rfl, rfl⟩) | (go_at_call 139; refine (all_Var _ _).mono ?_; rintro e wz ⟨rfl, rfl⟩) | (go_at_call 143; refine (all_Depth _ _).mono ?_; rintro e wz ⟨rfl, rfl⟩) | (go_at_call 145; refine (all_Conv _ _).mono ?_; rintro e wz ⟨rfl, rfl⟩) | go_in); repeat (any_goals (first | (refine wp_loop_rounds 2 ?_; rw [rounds_succ]; go_wp2_with (first | (go_at_call 106; refine (between_any _ _ _ _).mono ?_; rintro e wz ⟨rfl, rfl⟩) | (go_at_call 103; refine (all_int _ _).mono ?_; rintro e wz ⟨rfl, rfl⟩) | (go_at_call 108; refine (all_Placed _ _).mono ?_; rintro e wz ⟨rfl, rfl⟩) | (go_at_call 114; refine (all_Export _ _).mono ?_; rintro e wz ⟨rfl, rfl⟩) | (go_at_call 119; refine (all_Import _ _).mono ?_; rintro e wz ⟨rfl, rfl⟩) | (go_at_call 124; refine (all_string _ _).mono ?_; rintro e wz ⟨rfl, rfl⟩) | (go_at_call 126; refine (all_Mark _ _).mono ?_; rintro e wz ⟨rfl, rfl⟩) | (go_at_call 129; refine (all_Line _ _).mono ?_; rintro e wz ⟨rfl, rfl⟩) | (go_at_call 131; refine (all_Span _ _).mono ?_; rintro e wz ⟨rfl, rfl⟩) | (go_at_call 135; refine (all_Inline _ _).mono ?_; rintro e wz ⟨rfl, rfl⟩) | (go_at_call 139; refine (all_Var _ _).mono ?_; rintro e wz ⟨rfl, rfl⟩) | (go_at_call 143; refine (all_Depth _ _).mono ?_; rintro e wz ⟨rfl, rfl⟩) | (go_at_call 145; refine (all_Conv _ _).mono ?_; rintro e wz ⟨rfl, rfl⟩) | go_in)) | (rw [rounds_succ]; go_wp2_with (first | (go_at_call 106; refine (between_any _ _ _ _).mono ?_; rintro e wz ⟨rfl, rfl⟩) | (go_at_call 103; refine (all_int _ _).mono ?_; rintro e wz ⟨rfl, rfl⟩) | (go_at_call 108; refine (all_Placed _ _).mono ?_; rintro e wz ⟨rfl, rfl⟩) | (go_at_call 114; refine (all_Export _ _).mono ?_; rintro e wz ⟨rfl, rfl⟩) | (go_at_call 119; refine (all_Import _ _).mono ?_; rintro e wz ⟨rfl, rfl⟩) | (go_at_call 124; refine (all_string _ _).mono ?_; rintro e wz ⟨rfl, rfl⟩) | (go_at_call 126; refine (all_Mark _ _).mono ?_; rintro e wz ⟨rfl, rfl⟩) | (go_at_call 129; refine (all_Line _ _).mono ?_; rintro e wz ⟨rfl, rfl⟩) | (go_at_call 131; refine (all_Span _ _).mono ?_; rintro e wz ⟨rfl, rfl⟩) | (go_at_call 135; refine (all_Inline _ _).mono ?_; rintro e wz ⟨rfl, rfl⟩) | (go_at_call 139; refine (all_Var _ _).mono ?_; rintro e wz ⟨rfl, rfl⟩) | (go_at_call 143; refine (all_Depth _ _).mono ?_; rintro e wz ⟨rfl, rfl⟩) | (go_at_call 145; refine (all_Conv _ _).mono ?_; rintro e wz ⟨rfl, rfl⟩) | go_in)))))
  go_ret
  exact ⟨by simp, by go_grown⟩
end Go.Proofs.YtkbilipgidcgeaaGreatDoor.Tiny
