/- version.Right of no definition, and of one without parents. version.Right of one definition without parents. image.Right at the image of the example. image.Right at the image of the example: its parts. -/
import Derived.Test.YtacaejpamidkcaaGreatDoorR18
import Derived.Test.YtacaejpamidkcaaGreatDoorR19
set_option linter.unusedVariables false
set_option linter.unusedSimpArgs false
set_option maxRecDepth 100000
set_option maxHeartbeats 1000000
namespace Go.Proofs.YtacaejpamidkcaaGreatDoor
namespace Two
open Go.RowKit Go.ChangeMaps
attribute [local go_sem] ak_ af_ aq_ be_ bf_ bg_ a6_ a7_ a8_ cb_ run_makeMap
def labS : ByteArray := ⟨#[116, 119, 111]⟩
theorem ow_ (w : World) : Calls Tryz.prog 214 #[.slice none 0 0] w fun e w' => e = .returned (.map (some w.heap.size)) ∧ w' = w.alloc (.map #[] 0) := by
 go_enter Tryz.func214, Tryz.ntmps214
 (go_wp2; repeat (any_goals (first | (refine wp_loop_rounds 2 ?_; rw [rounds_succ]; go_wp2) | (rw [rounds_succ]; go_wp2))))
 go_ret
 exact ⟨rfl, rfl⟩
theorem jh_ {P : Program} {w : World} {t ty : TypeId} {k e : TypeId} {b c : Nat} {es : Array MapEntry} (ht : P.underlying t = some (.map k e)) (hb : w.heap[b]? = some (.map es c)) :
 (Builtin.len_ #[t] ty #[.map (some b)]).run P w = .ok (.int .i64 es.size) w := by
 simp [Builtin.len_, goInt, run_underlying ht, MapKept.run_getObj_map hb, Result.andThen]
theorem tl_ (w : World) : Calls Tryz.prog 123 #[.slice none 0 0] w fun e w' => e = .returned (.bool true) ∧ Below w.heap.size w w' := by
 go_enter Tryz.func123, Tryz.ntmps123
 (go_wp2_with (first | (go_at_call 214; refine (ow_ _).mono ?_; rintro e w1 ⟨rfl, rfl⟩) | (go_at_call 216; refine (loop0 _).mono ?_; rintro e w1 ⟨rfl, hb1⟩; have H1 := h1_ hb1; clear hb1)); repeat (any_goals (first | (refine wp_loop_rounds 2 ?_; rw [rounds_succ]; go_wp2_with (first | (go_at_call 214; refine (ow_ _).mono ?_; rintro e w1 ⟨rfl, rfl⟩) | (go_at_call 216; refine (loop0 _).mono ?_; rintro e w1 ⟨rfl, hb1⟩; have H1 := h1_ hb1; clear hb1))) | (rw [rounds_succ]; go_wp2_with (first | (go_at_call 214; refine (ow_ _).mono ?_; rintro e w1 ⟨rfl, rfl⟩) | (go_at_call 216; refine (loop0 _).mono ?_; rintro e w1 ⟨rfl, hb1⟩; have H1 := h1_ hb1; clear hb1))))))
 rw [jh_ Tryz.underlying290 (heap_alloc_new w (.map #[] 0))]
 have e0 : (#[] : Array MapEntry).size = 0 := rfl
 rw [e0]
 clear e0
 (go_wp2_with (go_at_call 216; refine (loop0 _).mono ?_; rintro e w1 ⟨rfl, hb1⟩; have H1 := h1_ hb1; clear hb1); repeat (any_goals (first | (refine wp_loop_rounds 2 ?_; rw [rounds_succ]; go_wp2_with (go_at_call 216; refine (loop0 _).mono ?_; rintro e w1 ⟨rfl, hb1⟩; have H1 := h1_ hb1; clear hb1)) | (rw [rounds_succ]; go_wp2_with (go_at_call 216; refine (loop0 _).mono ?_; rintro e w1 ⟨rfl, hb1⟩; have H1 := h1_ hb1; clear hb1)))))
 go_ret
 exact ⟨rfl, aw_ ((Below.refl _ _).alloc (Nat.le_refl _) _) H1.out⟩
theorem gl_ (s : ByteArray) (K i : Nat) (u : UInt8) (h : s.data[i]? = some u) : (bytesRow s K)[i]? = some (.int .u8 (u.toNat : Int)) := by
 have hi : i < s.data.size := (Array.getElem?_eq_some_iff.1 h).1
 unfold bytesRow
 rw [Array.getElem?_append_left (by simpa using hi)]
 simp only [Array.getElem?_map, h]
 rfl
theorem tm_ (w : World) : Calls Tryz.prog 215 #[.string labS] w fun e w' => e = .returned (.bool true) ∧ Below w.heap.size w w' := by
 have hcv := fun (w : World) (s : ByteArray) => run_bytes_of_string (P := Tryz.prog) w 9 75 5 s Tryz.underlying9 Tryz.underlying75 Tryz.underlying5
 have hsz : labS.size = 3 := rfl
 go_enter Tryz.func215, Tryz.ntmps215
 go_wp2
 obtain ⟨K, hK⟩ : ∃ K, K = grownCap w 3 0 5 := ⟨_, rfl⟩
 refine ac_ fun W hW => ?_
 have hB0 : ∃ K f, W.heap[w.heap.size]? = some (.cells (bytesRow labS K) 5 f) := by rw [← hW]; exact ⟨_, _, az_ (heap_alloc_new w _)⟩
 have hBW : Below w.heap.size w W := by rw [← hW]; exact ((Below.refl _ _).alloc (Nat.le_refl _) _).drew
 obtain ⟨K', f, hB0⟩ := hB0
 have c0 := al_ (v := .int .u8 116) hB0 0 (gl_ labS K' 0 116 rfl)
 have c1 := al_ (v := .int .u8 119) hB0 1 (gl_ labS K' 1 119 rfl)
 have c2 := al_ (v := .int .u8 111) hB0 2 (gl_ labS K' 2 111 rfl)
 have HW := h1_ hBW
 clear hB0 hBW hW hcv hK
 refine wp_loop_rounds 4 ?_
 rw [rounds_succ]
 go_wp2
 rw [rounds_succ]
 go_wp2
 rw [rounds_succ]
 go_wp2
 rw [rounds_succ]
 go_wp2
 go_ret
 exact ⟨rfl, HW.out⟩
end Two
namespace Two
open Go.RowKit Go.ChangeMaps
attribute [local go_sem] ak_ af_ aq_ be_ bf_ bg_ a6_ a7_ a8_ cb_ run_makeMap
theorem wn_ (w : World) : (zeroValue 3).run Tryz.prog w = .ok (.int .i64 0) w := by kernel_rfl
theorem vindex1 (g : Nat) (w : World) (hg : w.heap[g]? = some (.cells [.string labS, .slice none 0 0].toArray 382 (0, 0))) :
 Calls Tryz.prog 214 #[.slice (some ⟨g, 0, none⟩) 1 1] w fun e w' => e = .returned (.map (some w.heap.size)) ∧ Below w.heap.size w w' ∧ w'.heap[w.heap.size]? = some (.map #[⟨.string labS, .int .i64 0, 0⟩] 1) := by
 have lg := lt_of_block hg
 have c0 := ab_ hg 0 rfl
 have c1 := ab_ hg 1 rfl
 clear hg
 have hM : ((w.alloc (.map #[] 0)).alloc (.cells #[.string labS, .slice none 0 0] 382)).heap[w.heap.size]? = some (.map #[] 0) := ae_ (heap_alloc_new _ _)
 have hl := iu_ (P := Tryz.prog) (key := .string labS) true Tryz.underlying290 hM Tryz.underlying9 trivial (wn_ _) rfl
 have hu := g7_ (P := Tryz.prog) (key := .string labS) (val := .int .i64 0) Tryz.underlying290 hM Tryz.underlying9 trivial rfl
 simp only [if_true] at hl
 have HM := h1_ hM
 clear hM
 go_enter Tryz.func214, Tryz.ntmps214
 go_wp2
 refine wp_loop_rounds 2 ?_
 rw [rounds_succ]
 go_wp2
 rw [rounds_succ]
 go_wp2
 go_ret
 refine ⟨rfl, ?_, e9_ (by simp; omega) _⟩
 refine ⟨rfl, rfl, rfl, by simp [setBlock]; omega, fun k hk => ?_⟩
 rw [bv_ _ _ (by omega)]
 exact (((Below.refl _ _).alloc (Nat.le_refl _) _).alloc (by simp) _).block k hk
theorem vright1 (g : Nat) (w : World) (hg : w.heap[g]? = some (.cells [.string labS, .slice none 0 0].toArray 382 (0, 0))) :
 Calls Tryz.prog 123 #[.slice (some ⟨g, 0, none⟩) 1 1] w fun e w' => e = .returned (.bool true) ∧ Below w.heap.size w w' := by
 have lg := lt_of_block hg
 have HG := h1_ hg
 clear hg
 go_enter Tryz.func123, Tryz.ntmps123
 go_wp2_with (go_at_call 214; refine (vindex1 g _ HG.out).mono ?_; rintro e w1 ⟨rfl, hb1, hm1⟩; have H1 := h2_ hb1 hm1; clear hb1 hm1)
 rw [jh_ Tryz.underlying290 H1.out.2]
 have e0 : (#[⟨.string labS, .int .i64 0, 0⟩] : Array MapEntry).size = 1 := rfl
 rw [e0]
 clear e0
 have k1 := (H1.out.1.block g lg).trans HG.out
 have c0 := ab_ k1 0 rfl
 have c1 := ab_ k1 1 rfl
 have l1 := lt_of_block k1
 clear k1
 go_wp2
 refine wp_loop_rounds 2 ?_
 rw [rounds_succ]
 go_wp2
 refine wp_loop_rounds 1 ?_
 rw [rounds_succ]
 go_wp2_with (go_at_call 215; refine (tm_ _).mono ?_; rintro e w2 ⟨rfl, hb2⟩; have H2 := h1_ hb2; clear hb2)
 rw [rounds_succ]
 go_wp2_with (go_at_call 216; refine (loop1 _).mono ?_; rintro e w3 ⟨rfl, hb3⟩; have H3 := h1_ hb3; clear hb3)
 go_ret
 have s1 := H1.out.1.size
 have s2 := H2.out.size
 simp at s2
 exact ⟨rfl, (((H1.out.1.alloc (by omega) _).alloc (by simp; omega) _).trans (H2.out.mono (by simp; omega))).trans (H3.out.mono (by omega))⟩
theorem tn_ (w : World) : Calls Tryz.prog 107 #[.string labS] w fun e w' => e = .returned (.bool true) ∧ Below w.heap.size w w' := by
 go_enter Tryz.func107, Tryz.ntmps107
 go_wp2_with (go_at_call 123; refine (vright1 w.heap.size _ (heap_alloc_new _ _)).mono ?_; rintro e w1 ⟨rfl, hb1⟩; have H1 := h1_ hb1; clear hb1)
 go_ret
 exact ⟨rfl, aw_ ((Below.refl _ _).alloc (Nat.le_refl _) _) H1.out⟩
end Two
namespace Two
open Go.RowKit Go.ChangeMaps
attribute [local go_sem] ak_ af_ aq_ be_ bf_ bg_ a6_ a7_ a8_ cb_ run_makeMap
structure IB where
 bytes : ByteArray
 gd : Nat
def aa_ (B : IB) : Array Value := #[.string labS, .bool false, .int .i64 256, .int .i64 256, .int .i64 256, .string B.bytes, .string ⟨#[]⟩, .int .i64 0, .slice none 0 0, .slice none 0 0, .slice none 0 0, .slice none 0 0, .slice none 0 0, .slice none 0 0, .slice none 0 0, .slice none 0 0,
 .int .i64 0, .slice none 0 0, .slice none 0 0, .slice none 0 0, .slice none 0 0, .slice none 0 0, .slice none 0 0, .slice none 0 0, .slice (some ⟨B.gd, 0, none⟩) 1 1, .slice none 0 0]
theorem ex_ (f : Value) (w : World) : Calls Tryz.prog 103 #[.slice none 0 0, f] w fun e w' => e = .returned (.bool true) ∧ w = w' := by
 go_enter Tryz.func103, Tryz.ntmps103
 (go_wp2; repeat (any_goals (first | (refine wp_loop_rounds 2 ?_; rw [rounds_succ]; go_wp2) | (rw [rounds_succ]; go_wp2))))
 go_ret
 exact ⟨rfl, rfl⟩
theorem b4_ (f : Value) (w : World) : Calls Tryz.prog 108 #[.slice none 0 0, f] w fun e w' => e = .returned (.bool true) ∧ w = w' := by
 go_enter Tryz.func108, Tryz.ntmps108
 (go_wp2; repeat (any_goals (first | (refine wp_loop_rounds 2 ?_; rw [rounds_succ]; go_wp2) | (rw [rounds_succ]; go_wp2))))
 go_ret
 exact ⟨rfl, rfl⟩
theorem cp_ (f : Value) (w : World) : Calls Tryz.prog 114 #[.slice none 0 0, f] w fun e w' => e = .returned (.bool true) ∧ w = w' := by
 go_enter Tryz.func114, Tryz.ntmps114
 (go_wp2; repeat (any_goals (first | (refine wp_loop_rounds 2 ?_; rw [rounds_succ]; go_wp2) | (rw [rounds_succ]; go_wp2))))
 go_ret
 exact ⟨rfl, rfl⟩
theorem cq_ (f : Value) (w : World) : Calls Tryz.prog 119 #[.slice none 0 0, f] w fun e w' => e = .returned (.bool true) ∧ w = w' := by
 go_enter Tryz.func119, Tryz.ntmps119
 (go_wp2; repeat (any_goals (first | (refine wp_loop_rounds 2 ?_; rw [rounds_succ]; go_wp2) | (rw [rounds_succ]; go_wp2))))
 go_ret
 exact ⟨rfl, rfl⟩
theorem cd_ (f : Value) (w : World) : Calls Tryz.prog 124 #[.slice none 0 0, f] w fun e w' => e = .returned (.bool true) ∧ w = w' := by
 go_enter Tryz.func124, Tryz.ntmps124
 (go_wp2; repeat (any_goals (first | (refine wp_loop_rounds 2 ?_; rw [rounds_succ]; go_wp2) | (rw [rounds_succ]; go_wp2))))
 go_ret
 exact ⟨rfl, rfl⟩
theorem d2_ (f : Value) (w : World) : Calls Tryz.prog 126 #[.slice none 0 0, f] w fun e w' => e = .returned (.bool true) ∧ w = w' := by
 go_enter Tryz.func126, Tryz.ntmps126
 (go_wp2; repeat (any_goals (first | (refine wp_loop_rounds 2 ?_; rw [rounds_succ]; go_wp2) | (rw [rounds_succ]; go_wp2))))
 go_ret
 exact ⟨rfl, rfl⟩
theorem d3_ (f : Value) (w : World) : Calls Tryz.prog 129 #[.slice none 0 0, f] w fun e w' => e = .returned (.bool true) ∧ w = w' := by
 go_enter Tryz.func129, Tryz.ntmps129
 (go_wp2; repeat (any_goals (first | (refine wp_loop_rounds 2 ?_; rw [rounds_succ]; go_wp2) | (rw [rounds_succ]; go_wp2))))
 go_ret
 exact ⟨rfl, rfl⟩
theorem c0_ (f : Value) (w : World) : Calls Tryz.prog 131 #[.slice none 0 0, f] w fun e w' => e = .returned (.bool true) ∧ w = w' := by
 go_enter Tryz.func131, Tryz.ntmps131
 (go_wp2; repeat (any_goals (first | (refine wp_loop_rounds 2 ?_; rw [rounds_succ]; go_wp2) | (rw [rounds_succ]; go_wp2))))
 go_ret
 exact ⟨rfl, rfl⟩
theorem ce_ (f : Value) (w : World) : Calls Tryz.prog 135 #[.slice none 0 0, f] w fun e w' => e = .returned (.bool true) ∧ w = w' := by
 go_enter Tryz.func135, Tryz.ntmps135
 (go_wp2; repeat (any_goals (first | (refine wp_loop_rounds 2 ?_; rw [rounds_succ]; go_wp2) | (rw [rounds_succ]; go_wp2))))
 go_ret
 exact ⟨rfl, rfl⟩
theorem ep_ (f : Value) (w : World) : Calls Tryz.prog 139 #[.slice none 0 0, f] w fun e w' => e = .returned (.bool true) ∧ w = w' := by
 go_enter Tryz.func139, Tryz.ntmps139
 (go_wp2; repeat (any_goals (first | (refine wp_loop_rounds 2 ?_; rw [rounds_succ]; go_wp2) | (rw [rounds_succ]; go_wp2))))
 go_ret
 exact ⟨rfl, rfl⟩
theorem dq_ (f : Value) (w : World) : Calls Tryz.prog 143 #[.slice none 0 0, f] w fun e w' => e = .returned (.bool true) ∧ w = w' := by
 go_enter Tryz.func143, Tryz.ntmps143
 (go_wp2; repeat (any_goals (first | (refine wp_loop_rounds 2 ?_; rw [rounds_succ]; go_wp2) | (rw [rounds_succ]; go_wp2))))
 go_ret
 exact ⟨rfl, rfl⟩
theorem ea_ (f : Value) (w : World) : Calls Tryz.prog 145 #[.slice none 0 0, f] w fun e w' => e = .returned (.bool true) ∧ w = w' := by
 go_enter Tryz.func145, Tryz.ntmps145
 (go_wp2; repeat (any_goals (first | (refine wp_loop_rounds 2 ?_; rw [rounds_succ]; go_wp2) | (rw [rounds_succ]; go_wp2))))
 go_ret
 exact ⟨rfl, rfl⟩
theorem by_ (n lo hi : Int) (w : World) : Calls Tryz.prog 106 #[.int .i64 n, .int .i64 lo, .int .i64 hi] w fun e w' => e = .returned (.bool (decide (lo ≤ n) && decide (n ≤ hi))) ∧ w = w' := by
 by_cases h1 : lo ≤ n
 · by_cases h2 : n ≤ hi
   · go_enter Tryz.func106, Tryz.ntmps106
     go_wp2
     go_ret
     exact ⟨by simp [h1, h2], rfl⟩
   · go_enter Tryz.func106, Tryz.ntmps106
     go_wp2
     go_ret
     exact ⟨by simp [h1, h2], rfl⟩
 · go_enter Tryz.func106, Tryz.ntmps106
   go_wp2
   go_ret
   exact ⟨by have h3 : decide (lo ≤ n) = false := by simpa using h1
             rw [h3]; rfl, rfl⟩
theorem to_ (i n : Int) (w : World) (h : n = 256 ∨ n = 512) : Calls Tryz.prog 104 #[.int .i64 i, .int .i64 n] w fun e w' => e = .returned (.bool true) ∧ w = w' := by
 rcases h with rfl | rfl
 all_goals
  go_enter Tryz.func104, Tryz.ntmps104
  go_wp2_with (go_at_call 105; refine (i6_ _ _ _ (by omega) (by omega) (by omega) (by omega)).mono ?_; rintro e w1 ⟨rfl, rfl⟩)
  go_ret
  exact ⟨by simp [upI], rfl⟩
theorem tp_ (g : Nat) (w : World) (h0 : w.cell? ⟨g, 0, none⟩ = some (.int .i64 256)) (h1 : w.cell? ⟨g, 1, none⟩ = some (.int .i64 256)) (h2 : w.cell? ⟨g, 2, none⟩ = some (.int .i64 256)) :
 Calls Tryz.prog 103 #[.slice (some ⟨g, 0, none⟩) 3 3, .func (.func 104) #[] #[]] w fun e w' => e = .returned (.bool true) ∧ w = w' := by
 go_enter Tryz.func103, Tryz.ntmps103
 go_wp2
 refine wp_loop_rounds 4 ?_
 rw [rounds_succ]
 go_wp2_with (go_at_call 104; refine (to_ _ _ _ (by omega)).mono ?_; rintro e w1 ⟨rfl, rfl⟩)
 rw [rounds_succ]
 go_wp2_with (go_at_call 104; refine (to_ _ _ _ (by omega)).mono ?_; rintro e w1 ⟨rfl, rfl⟩)
 rw [rounds_succ]
 go_wp2_with (go_at_call 104; refine (to_ _ _ _ (by omega)).mono ?_; rintro e w1 ⟨rfl, rfl⟩)
 rw [rounds_succ]
 go_wp2
 go_ret
 exact ⟨rfl, rfl⟩
end Two
namespace Two
open Go.RowKit Go.ChangeMaps
attribute [local go_sem] ak_ af_ aq_ be_ bf_ bg_ a6_ a7_ a8_ cb_ run_makeMap
theorem isizes (B : IB) (hB : B.bytes.size = 256) (w : World) : Calls Tryz.prog 56 #[.agg (aa_ B)] w fun e w' => e = .returned (.bool true) ∧ Below w.heap.size w w' := by
 have HB := h1_ hB
 have hl : (B.bytes.size : Int) = 256 := by omega
 clear hB
 unfold aa_
 go_enter Tryz.func56, Tryz.ntmps56
 go_wp2_with (first
  | (go_at_call 106; refine (by_ _ _ _ _).mono ?_; rintro e wz ⟨rfl, rfl⟩)
  | (go_at_call 103; refine (tp_ _ _ (by simp [go_sem]) (by simp [go_sem]) (by simp [go_sem])).mono ?_; rintro e wz ⟨rfl, rfl⟩)
  | (go_at_call 107; refine (tn_ _).mono ?_; rintro e w1 ⟨rfl, hb1⟩; have H1 := h1_ hb1; clear hb1))
 go_ret
 exact ⟨by simp, aw_ (by go_grown) H1.out⟩
theorem mi_ (B : IB) (w : World) : Calls Tryz.prog 112 #[.agg (aa_ B), .int .i64 0] w fun e w' => e = .returned (.bool true) ∧ Below w.heap.size w w' := by
 unfold aa_
 go_enter Tryz.func112, Tryz.ntmps112
 go_wp2_with (go_at_call 106; refine (by_ _ _ _ _).mono ?_; rintro e wz ⟨rfl, rfl⟩)
 go_ret
 exact ⟨by simp, by go_grown⟩
theorem wo_ (B : IB) (w : World) : Calls Tryz.prog 58 #[.agg (aa_ B)] w fun e w' => e = .returned (.bool true) ∧ Below w.heap.size w w' := by
 unfold aa_
 go_enter Tryz.func58, Tryz.ntmps58
 (go_wp2_with (first | (go_at_call 106; refine (by_ _ _ _ _).mono ?_; rintro e wz ⟨rfl, rfl⟩) | (go_at_call 103; refine (ex_ _ _).mono ?_; rintro e wz ⟨rfl, rfl⟩) | (go_at_call 108; refine (b4_ _ _).mono ?_; rintro e wz ⟨rfl, rfl⟩) | (go_at_call 114; refine (cp_ _ _).mono ?_; rintro e wz ⟨rfl, rfl⟩) | (go_at_call 119; refine (cq_ _ _).mono ?_; rintro e wz ⟨rfl, rfl⟩) | (go_at_call 124; refine (cd_ _ _).mono ?_; rintro e wz ⟨rfl, rfl⟩) | (go_at_call 126; refine (d2_ _ _).mono ?_; rintro e wz ⟨rfl, rfl⟩) | (go_at_call 129; refine (d3_ _ _).mono ?_; rintro e wz ⟨rfl, rfl⟩) | (go_at_call 131; refine (c0_ _ _).mono ?_; rintro e wz ⟨rfl, rfl⟩) | (go_at_call 135; refine (ce_ _ _).mono ?_; rintro e wz ⟨rfl, rfl⟩) | (go_at_call 139; refine (ep_ _ _).mono ?_; rintro e wz ⟨rfl, rfl⟩) | (go_at_call 143; refine (dq_ _ _).mono ?_; rintro e wz ⟨rfl, rfl⟩) | (go_at_call 145; refine (ea_ _ _).mono ?_; rintro e wz ⟨rfl, rfl⟩) | go_in); repeat (any_goals (first | (refine wp_loop_rounds 2 ?_; rw [rounds_succ]; go_wp2_with (first | (go_at_call 106; refine (by_ _ _ _ _).mono ?_; rintro e wz ⟨rfl, rfl⟩) | (go_at_call 103; refine (ex_ _ _).mono ?_; rintro e wz ⟨rfl, rfl⟩) | (go_at_call 108; refine (b4_ _ _).mono ?_; rintro e wz ⟨rfl, rfl⟩) | (go_at_call 114; refine (cp_ _ _).mono ?_; rintro e wz ⟨rfl, rfl⟩) | (go_at_call 119; refine (cq_ _ _).mono ?_; rintro e wz ⟨rfl, rfl⟩) | (go_at_call 124; refine (cd_ _ _).mono ?_; rintro e wz ⟨rfl, rfl⟩) | (go_at_call 126; refine (d2_ _ _).mono ?_; rintro e wz ⟨rfl, rfl⟩) | (go_at_call 129; refine (d3_ _ _).mono ?_; rintro e wz ⟨rfl, rfl⟩) | (go_at_call 131; refine (c0_ _ _).mono ?_; rintro e wz ⟨rfl, rfl⟩) | (go_at_call 135; refine (ce_ _ _).mono ?_; rintro e wz ⟨rfl, rfl⟩) | (go_at_call 139; refine (ep_ _ _).mono ?_; rintro e wz ⟨rfl, rfl⟩) | (go_at_call 143; refine (dq_ _ _).mono ?_; rintro e wz ⟨rfl, rfl⟩) | (go_at_call 145; refine (ea_ _ _).mono ?_; rintro e wz ⟨rfl, rfl⟩) | go_in)) | (rw [rounds_succ]; go_wp2_with (first | (go_at_call 106; refine (by_ _ _ _ _).mono ?_; rintro e wz ⟨rfl, rfl⟩) | (go_at_call 103; refine (ex_ _ _).mono ?_; rintro e wz ⟨rfl, rfl⟩) | (go_at_call 108; refine (b4_ _ _).mono ?_; rintro e wz ⟨rfl, rfl⟩) | (go_at_call 114; refine (cp_ _ _).mono ?_; rintro e wz ⟨rfl, rfl⟩) | (go_at_call 119; refine (cq_ _ _).mono ?_; rintro e wz ⟨rfl, rfl⟩) | (go_at_call 124; refine (cd_ _ _).mono ?_; rintro e wz ⟨rfl, rfl⟩) | (go_at_call 126; refine (d2_ _ _).mono ?_; rintro e wz ⟨rfl, rfl⟩) | (go_at_call 129; refine (d3_ _ _).mono ?_; rintro e wz ⟨rfl, rfl⟩) | (go_at_call 131; refine (c0_ _ _).mono ?_; rintro e wz ⟨rfl, rfl⟩) | (go_at_call 135; refine (ce_ _ _).mono ?_; rintro e wz ⟨rfl, rfl⟩) | (go_at_call 139; refine (ep_ _ _).mono ?_; rintro e wz ⟨rfl, rfl⟩) | (go_at_call 143; refine (dq_ _ _).mono ?_; rintro e wz ⟨rfl, rfl⟩) | (go_at_call 145; refine (ea_ _ _).mono ?_; rintro e wz ⟨rfl, rfl⟩) | go_in)))))
 go_ret
 exact ⟨by simp, by go_grown⟩
theorem wp_ (B : IB) (w : World) : Calls Tryz.prog 59 #[.agg (aa_ B)] w fun e w' => e = .returned (.bool true) ∧ Below w.heap.size w w' := by
 unfold aa_
 go_enter Tryz.func59, Tryz.ntmps59
 (go_wp2_with (first | (go_at_call 106; refine (by_ _ _ _ _).mono ?_; rintro e wz ⟨rfl, rfl⟩) | (go_at_call 103; refine (ex_ _ _).mono ?_; rintro e wz ⟨rfl, rfl⟩) | (go_at_call 108; refine (b4_ _ _).mono ?_; rintro e wz ⟨rfl, rfl⟩) | (go_at_call 114; refine (cp_ _ _).mono ?_; rintro e wz ⟨rfl, rfl⟩) | (go_at_call 119; refine (cq_ _ _).mono ?_; rintro e wz ⟨rfl, rfl⟩) | (go_at_call 124; refine (cd_ _ _).mono ?_; rintro e wz ⟨rfl, rfl⟩) | (go_at_call 126; refine (d2_ _ _).mono ?_; rintro e wz ⟨rfl, rfl⟩) | (go_at_call 129; refine (d3_ _ _).mono ?_; rintro e wz ⟨rfl, rfl⟩) | (go_at_call 131; refine (c0_ _ _).mono ?_; rintro e wz ⟨rfl, rfl⟩) | (go_at_call 135; refine (ce_ _ _).mono ?_; rintro e wz ⟨rfl, rfl⟩) | (go_at_call 139; refine (ep_ _ _).mono ?_; rintro e wz ⟨rfl, rfl⟩) | (go_at_call 143; refine (dq_ _ _).mono ?_; rintro e wz ⟨rfl, rfl⟩) | (go_at_call 145; refine (ea_ _ _).mono ?_; rintro e wz ⟨rfl, rfl⟩) | go_in); repeat (any_goals (first | (refine wp_loop_rounds 2 ?_; rw [rounds_succ]; go_wp2_with (first | (go_at_call 106; refine (by_ _ _ _ _).mono ?_; rintro e wz ⟨rfl, rfl⟩) | (go_at_call 103; refine (ex_ _ _).mono ?_; rintro e wz ⟨rfl, rfl⟩) | (go_at_call 108; refine (b4_ _ _).mono ?_; rintro e wz ⟨rfl, rfl⟩) | (go_at_call 114; refine (cp_ _ _).mono ?_; rintro e wz ⟨rfl, rfl⟩) | (go_at_call 119; refine (cq_ _ _).mono ?_; rintro e wz ⟨rfl, rfl⟩) | (go_at_call 124; refine (cd_ _ _).mono ?_; rintro e wz ⟨rfl, rfl⟩) | (go_at_call 126; refine (d2_ _ _).mono ?_; rintro e wz ⟨rfl, rfl⟩) | (go_at_call 129; refine (d3_ _ _).mono ?_; rintro e wz ⟨rfl, rfl⟩) | (go_at_call 131; refine (c0_ _ _).mono ?_; rintro e wz ⟨rfl, rfl⟩) | (go_at_call 135; refine (ce_ _ _).mono ?_; rintro e wz ⟨rfl, rfl⟩) | (go_at_call 139; refine (ep_ _ _).mono ?_; rintro e wz ⟨rfl, rfl⟩) | (go_at_call 143; refine (dq_ _ _).mono ?_; rintro e wz ⟨rfl, rfl⟩) | (go_at_call 145; refine (ea_ _ _).mono ?_; rintro e wz ⟨rfl, rfl⟩) | go_in)) | (rw [rounds_succ]; go_wp2_with (first | (go_at_call 106; refine (by_ _ _ _ _).mono ?_; rintro e wz ⟨rfl, rfl⟩) | (go_at_call 103; refine (ex_ _ _).mono ?_; rintro e wz ⟨rfl, rfl⟩) | (go_at_call 108; refine (b4_ _ _).mono ?_; rintro e wz ⟨rfl, rfl⟩) | (go_at_call 114; refine (cp_ _ _).mono ?_; rintro e wz ⟨rfl, rfl⟩) | (go_at_call 119; refine (cq_ _ _).mono ?_; rintro e wz ⟨rfl, rfl⟩) | (go_at_call 124; refine (cd_ _ _).mono ?_; rintro e wz ⟨rfl, rfl⟩) | (go_at_call 126; refine (d2_ _ _).mono ?_; rintro e wz ⟨rfl, rfl⟩) | (go_at_call 129; refine (d3_ _ _).mono ?_; rintro e wz ⟨rfl, rfl⟩) | (go_at_call 131; refine (c0_ _ _).mono ?_; rintro e wz ⟨rfl, rfl⟩) | (go_at_call 135; refine (ce_ _ _).mono ?_; rintro e wz ⟨rfl, rfl⟩) | (go_at_call 139; refine (ep_ _ _).mono ?_; rintro e wz ⟨rfl, rfl⟩) | (go_at_call 143; refine (dq_ _ _).mono ?_; rintro e wz ⟨rfl, rfl⟩) | (go_at_call 145; refine (ea_ _ _).mono ?_; rintro e wz ⟨rfl, rfl⟩) | go_in)))))
 go_ret
 exact ⟨by simp, by go_grown⟩
theorem idyns (B : IB) (w : World) : Calls Tryz.prog 60 #[.agg (aa_ B)] w fun e w' => e = .returned (.bool true) ∧ Below w.heap.size w w' := by
 unfold aa_
 go_enter Tryz.func60, Tryz.ntmps60
 (go_wp2_with (first | (go_at_call 106; refine (by_ _ _ _ _).mono ?_; rintro e wz ⟨rfl, rfl⟩) | (go_at_call 103; refine (ex_ _ _).mono ?_; rintro e wz ⟨rfl, rfl⟩) | (go_at_call 108; refine (b4_ _ _).mono ?_; rintro e wz ⟨rfl, rfl⟩) | (go_at_call 114; refine (cp_ _ _).mono ?_; rintro e wz ⟨rfl, rfl⟩) | (go_at_call 119; refine (cq_ _ _).mono ?_; rintro e wz ⟨rfl, rfl⟩) | (go_at_call 124; refine (cd_ _ _).mono ?_; rintro e wz ⟨rfl, rfl⟩) | (go_at_call 126; refine (d2_ _ _).mono ?_; rintro e wz ⟨rfl, rfl⟩) | (go_at_call 129; refine (d3_ _ _).mono ?_; rintro e wz ⟨rfl, rfl⟩) | (go_at_call 131; refine (c0_ _ _).mono ?_; rintro e wz ⟨rfl, rfl⟩) | (go_at_call 135; refine (ce_ _ _).mono ?_; rintro e wz ⟨rfl, rfl⟩) | (go_at_call 139; refine (ep_ _ _).mono ?_; rintro e wz ⟨rfl, rfl⟩) | (go_at_call 143; refine (dq_ _ _).mono ?_; rintro e wz ⟨rfl, rfl⟩) | (go_at_call 145; refine (ea_ _ _).mono ?_; rintro e wz ⟨rfl, rfl⟩) | go_in); repeat (any_goals (first | (refine wp_loop_rounds 2 ?_; rw [rounds_succ]; go_wp2_with (first | (go_at_call 106; refine (by_ _ _ _ _).mono ?_; rintro e wz ⟨rfl, rfl⟩) | (go_at_call 103; refine (ex_ _ _).mono ?_; rintro e wz ⟨rfl, rfl⟩) | (go_at_call 108; refine (b4_ _ _).mono ?_; rintro e wz ⟨rfl, rfl⟩) | (go_at_call 114; refine (cp_ _ _).mono ?_; rintro e wz ⟨rfl, rfl⟩) | (go_at_call 119; refine (cq_ _ _).mono ?_; rintro e wz ⟨rfl, rfl⟩) | (go_at_call 124; refine (cd_ _ _).mono ?_; rintro e wz ⟨rfl, rfl⟩) | (go_at_call 126; refine (d2_ _ _).mono ?_; rintro e wz ⟨rfl, rfl⟩) | (go_at_call 129; refine (d3_ _ _).mono ?_; rintro e wz ⟨rfl, rfl⟩) | (go_at_call 131; refine (c0_ _ _).mono ?_; rintro e wz ⟨rfl, rfl⟩) | (go_at_call 135; refine (ce_ _ _).mono ?_; rintro e wz ⟨rfl, rfl⟩) | (go_at_call 139; refine (ep_ _ _).mono ?_; rintro e wz ⟨rfl, rfl⟩) | (go_at_call 143; refine (dq_ _ _).mono ?_; rintro e wz ⟨rfl, rfl⟩) | (go_at_call 145; refine (ea_ _ _).mono ?_; rintro e wz ⟨rfl, rfl⟩) | go_in)) | (rw [rounds_succ]; go_wp2_with (first | (go_at_call 106; refine (by_ _ _ _ _).mono ?_; rintro e wz ⟨rfl, rfl⟩) | (go_at_call 103; refine (ex_ _ _).mono ?_; rintro e wz ⟨rfl, rfl⟩) | (go_at_call 108; refine (b4_ _ _).mono ?_; rintro e wz ⟨rfl, rfl⟩) | (go_at_call 114; refine (cp_ _ _).mono ?_; rintro e wz ⟨rfl, rfl⟩) | (go_at_call 119; refine (cq_ _ _).mono ?_; rintro e wz ⟨rfl, rfl⟩) | (go_at_call 124; refine (cd_ _ _).mono ?_; rintro e wz ⟨rfl, rfl⟩) | (go_at_call 126; refine (d2_ _ _).mono ?_; rintro e wz ⟨rfl, rfl⟩) | (go_at_call 129; refine (d3_ _ _).mono ?_; rintro e wz ⟨rfl, rfl⟩) | (go_at_call 131; refine (c0_ _ _).mono ?_; rintro e wz ⟨rfl, rfl⟩) | (go_at_call 135; refine (ce_ _ _).mono ?_; rintro e wz ⟨rfl, rfl⟩) | (go_at_call 139; refine (ep_ _ _).mono ?_; rintro e wz ⟨rfl, rfl⟩) | (go_at_call 143; refine (dq_ _ _).mono ?_; rintro e wz ⟨rfl, rfl⟩) | (go_at_call 145; refine (ea_ _ _).mono ?_; rintro e wz ⟨rfl, rfl⟩) | go_in)))))
 go_ret
 exact ⟨by simp, by go_grown⟩
theorem ws_ (B : IB) (w : World) : Calls Tryz.prog 64 #[.agg (aa_ B)] w fun e w' => e = .returned (.bool true) ∧ Below w.heap.size w w' := by
 unfold aa_
 go_enter Tryz.func64, Tryz.ntmps64
 (go_wp2_with (first | (go_at_call 106; refine (by_ _ _ _ _).mono ?_; rintro e wz ⟨rfl, rfl⟩) | (go_at_call 103; refine (ex_ _ _).mono ?_; rintro e wz ⟨rfl, rfl⟩) | (go_at_call 108; refine (b4_ _ _).mono ?_; rintro e wz ⟨rfl, rfl⟩) | (go_at_call 114; refine (cp_ _ _).mono ?_; rintro e wz ⟨rfl, rfl⟩) | (go_at_call 119; refine (cq_ _ _).mono ?_; rintro e wz ⟨rfl, rfl⟩) | (go_at_call 124; refine (cd_ _ _).mono ?_; rintro e wz ⟨rfl, rfl⟩) | (go_at_call 126; refine (d2_ _ _).mono ?_; rintro e wz ⟨rfl, rfl⟩) | (go_at_call 129; refine (d3_ _ _).mono ?_; rintro e wz ⟨rfl, rfl⟩) | (go_at_call 131; refine (c0_ _ _).mono ?_; rintro e wz ⟨rfl, rfl⟩) | (go_at_call 135; refine (ce_ _ _).mono ?_; rintro e wz ⟨rfl, rfl⟩) | (go_at_call 139; refine (ep_ _ _).mono ?_; rintro e wz ⟨rfl, rfl⟩) | (go_at_call 143; refine (dq_ _ _).mono ?_; rintro e wz ⟨rfl, rfl⟩) | (go_at_call 145; refine (ea_ _ _).mono ?_; rintro e wz ⟨rfl, rfl⟩) | go_in); repeat (any_goals (first | (refine wp_loop_rounds 2 ?_; rw [rounds_succ]; go_wp2_with (first | (go_at_call 106; refine (by_ _ _ _ _).mono ?_; rintro e wz ⟨rfl, rfl⟩) | (go_at_call 103; refine (ex_ _ _).mono ?_; rintro e wz ⟨rfl, rfl⟩) | (go_at_call 108; refine (b4_ _ _).mono ?_; rintro e wz ⟨rfl, rfl⟩) | (go_at_call 114; refine (cp_ _ _).mono ?_; rintro e wz ⟨rfl, rfl⟩) | (go_at_call 119; refine (cq_ _ _).mono ?_; rintro e wz ⟨rfl, rfl⟩) | (go_at_call 124; refine (cd_ _ _).mono ?_; rintro e wz ⟨rfl, rfl⟩) | (go_at_call 126; refine (d2_ _ _).mono ?_; rintro e wz ⟨rfl, rfl⟩) | (go_at_call 129; refine (d3_ _ _).mono ?_; rintro e wz ⟨rfl, rfl⟩) | (go_at_call 131; refine (c0_ _ _).mono ?_; rintro e wz ⟨rfl, rfl⟩) | (go_at_call 135; refine (ce_ _ _).mono ?_; rintro e wz ⟨rfl, rfl⟩) | (go_at_call 139; refine (ep_ _ _).mono ?_; rintro e wz ⟨rfl, rfl⟩) | (go_at_call 143; refine (dq_ _ _).mono ?_; rintro e wz ⟨rfl, rfl⟩) | (go_at_call 145; refine (ea_ _ _).mono ?_; rintro e wz ⟨rfl, rfl⟩) | go_in)) | (rw [rounds_succ]; go_wp2_with (first | (go_at_call 106; refine (by_ _ _ _ _).mono ?_; rintro e wz ⟨rfl, rfl⟩) | (go_at_call 103; refine (ex_ _ _).mono ?_; rintro e wz ⟨rfl, rfl⟩) | (go_at_call 108; refine (b4_ _ _).mono ?_; rintro e wz ⟨rfl, rfl⟩) | (go_at_call 114; refine (cp_ _ _).mono ?_; rintro e wz ⟨rfl, rfl⟩) | (go_at_call 119; refine (cq_ _ _).mono ?_; rintro e wz ⟨rfl, rfl⟩) | (go_at_call 124; refine (cd_ _ _).mono ?_; rintro e wz ⟨rfl, rfl⟩) | (go_at_call 126; refine (d2_ _ _).mono ?_; rintro e wz ⟨rfl, rfl⟩) | (go_at_call 129; refine (d3_ _ _).mono ?_; rintro e wz ⟨rfl, rfl⟩) | (go_at_call 131; refine (c0_ _ _).mono ?_; rintro e wz ⟨rfl, rfl⟩) | (go_at_call 135; refine (ce_ _ _).mono ?_; rintro e wz ⟨rfl, rfl⟩) | (go_at_call 139; refine (ep_ _ _).mono ?_; rintro e wz ⟨rfl, rfl⟩) | (go_at_call 143; refine (dq_ _ _).mono ?_; rintro e wz ⟨rfl, rfl⟩) | (go_at_call 145; refine (ea_ _ _).mono ?_; rintro e wz ⟨rfl, rfl⟩) | go_in)))))
 go_ret
 exact ⟨by simp, by go_grown⟩
end Two
end Go.Proofs.YtacaejpamidkcaaGreatDoor
