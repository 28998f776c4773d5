/- hold.Code. hold.roots. hold: words, skip = never. hold: stratum.met, own, keeps. hold: stratum.own, keeps. The example 'tiny': its memory, and the words in it. -/
import Derived.Test.YtkbilipgidcgeaaGreatDoorH38
import Derived.Test.YtkbilipgidcgeaaGreatDoorH39
import Derived.Test.YtkbilipgidcgeaaGreatDoorH37
import Derived.Test.YtkbilipgidcgeaaGreatDoorH33
import Derived.Test.YtkbilipgidcgeaaGreatDoorH35
set_option linter.unusedVariables false
set_option linter.unusedSimpArgs false
namespace Go.Proofs.YtkbilipgidcgeaaGreatDoor.Tiny
open Go.RowKit Go.ChangeMaps Go.Maps
attribute [local go_sem] ext_cell ext_frozen
attribute [local irreducible] labCells modC threadC

theorem row_rebase {w : World} {base base' : Nat} {e : TypeId} {size n : Nat} {v : Value} {xs : List Value} (h : w.ownsRow base e size v n xs) (hb : base' ≤ base) : w.ownsRow base' e size v n xs := by
  refine ⟨h.1, ?_⟩
  rcases h.2 with h | ⟨g, cap, cur, h1, h2, h3⟩
  · exact .inl h
  · exact .inr ⟨g, cap, cur, h1, Nat.le_trans hb h2, h3⟩

set_option maxRecDepth 100000 in
set_option maxHeartbeats 4000000 in
theorem hCode (B : ByteArray) (n : PN) (sv : Value) (g cap : Nat) (l : List Str) (ps : List Part) (ad m : Int) (J : List InsR) (w : World) (hC : Ctx B w n sv g cap l ps) (hF : Forms w) (hne : 0 < ps.length)
    (h0 : 0 ≤ ad) (h8 : ad % 8 = 0) (h2 : 0 ≤ m) (h3 : ad + m ≤ 1000000) (hps : ∀ p ∈ ps, p.at_ + p.size ≤ 1000000) (hfew : ps.length ≤ 1000) (hJ : J.length = (hitsL ps ad m).length) (hD : ∀ k (h1 : k < (hitsL ps ad m).length) (h2 : k < J.length), DecOk ((hitsL ps ad m)[k]).2 J[k]) (hlen : J.length ≤ 80) :
    Calls Tryz.prog 16 #[.pointer (some ⟨n.p, 0, none⟩), .agg #[.int .i64 ad, .int .i64 m]] w fun e w' => ∃ (v : Value) (ss : List Int), e = .returned v ∧ ss.Nodup ∧ (∀ z, z ∈ ss ↔ MadeTo (hitsL ps ad m) J J.length z ∨ Comb (lowsJ J) (highsJ J) z) ∧
      w'.ownsRow w.heap.size 3 1 v ss.length (ss.map encZ) ∧ (v = .slice none 0 0 ↔ ss = []) ∧ Below w.heap.size w w' := by
  have hmm := @run_makeMap Tryz.prog
  have HH := Lib.hid (And.intro hC (And.intro hF (And.intro hD (And.intro hps hJ))))
  clear hC hF hD hps hJ
  go_enter Tryz.func16, Tryz.ntmps16
  go_upto_region 2 with fail
  refine name_world fun W hW => ?_
  have wB : Below w.heap.size w W := by rw [← hW]; go_grown
  have ks : W.heap[w.heap.size]? = some (.cells [.int .i64 ad, .int .i64 m].toArray 49 (0, 0)) := by rw [← hW]; exact block_old (heap_alloc_new w _)
  have km : SetAt W (w.heap.size + 1) 0 (fun _ => False) := by
    rw [← hW]
    have := SetAt.made (w.alloc (.cells #[.int .i64 ad, .int .i64 m] 49))
    rwa [show (w.alloc (.cells #[.int .i64 ad, .int .i64 m] 49)).heap.size = w.heap.size + 1 by simp] at this
  have HW := Lib.hid (And.intro wB (And.intro (HH.out.1.below wB) (And.intro (HH.out.2.1.below wB) km)))
  clear hW wB km hmm
  refine wp_region_facts [.val (.pointer (some ⟨n.p, 0, none⟩)), .more (fun v w => ∃ x : VN, v = .pointer (some ⟨x.v, 0, none⟩) ∧ ViewAt B w x n.p l ps) (fun v w w' hb h => by obtain ⟨x, h1, h2⟩ := h; exact ⟨x, h1, h2.below hb⟩), .val (.map (some (w.heap.size + 1))), .val (.agg [.int .i64 ad, .int .i64 m].toArray)] (by kernel_rfl) (by kernel_rfl) ?_ ?_
  · simp only [stepsAll, List.take, List.length]
    refine ⟨?_, ?_, ?_, ?_, ?_⟩
    all_goals first | trivial | (intro a wz hb hf hd)
    all_goals have hf0 : a.tmps[(0 : Nat)]?.getD undef = .pointer (some ⟨n.p, 0, none⟩) := (hf 0 (by decide +kernel)).trans rfl
    all_goals have hf3 : a.tmps[(3 : Nat)]?.getD undef = .pointer (some ⟨w.heap.size, 0, none⟩) := (hf 3 (by decide +kernel)).trans rfl
    all_goals have hf5 : a.tmps[(5 : Nat)]?.getD undef = .map (some (w.heap.size + 1)) := (hf 5 (by decide +kernel)).trans rfl
    · exact grow_tmp _ rfl ⟨hf0, fun h => by cases h⟩
    · have h7 : a.tmps[(7 : Nat)]?.getD undef = .pointer (some ⟨n.p, 0, none⟩) := hd 0 (by simp) (by kernel_rfl)
      refine grow_call (f := 43) (args := #[.pointer (some ⟨n.p, 0, none⟩)]) (by simp [execOp, h7, go_sem]) ((hof B n sv g cap l ps wz (HW.out.2.1.below hb) hne).mono ?_)
      rintro e w'' ⟨hb'', x, rfl, hv⟩
      exact ⟨_, rfl, hb'', ⟨x, rfl, hv⟩, fun h => by cases h⟩
    · exact grow_tmp _ rfl ⟨hf5, fun h => by cases h⟩
    · exact grow_load_row 3 49 rfl w.heap.size hf3 49 _ _ _ ((hb.block _ (lt_of_block ks)).trans ks) Tryz.underlying49 rfl (by kernel_rfl) ⟨rfl, fun h => by cases h⟩
  · intro fv w2 hb2 hs hn hne
    have g7 : fv 7 = .pointer (some ⟨n.p, 0, none⟩) := hs 0 (by simp)
    have g9 : fv 9 = .map (some (w.heap.size + 1)) := hs 2 (by simp)
    have g10 : fv 10 = .agg [.int .i64 ad, .int .i64 m].toArray := hs 3 (by simp)
    obtain ⟨x, g8, hview⟩ : ∃ x : VN, fv 8 = .pointer (some ⟨x.v, 0, none⟩) ∧ ViewAt B w2 x n.p l ps := hs 1 (by simp)
    rw [show (List.range (List.length _)).map (dstOf _) = [7, 8, 9, 10] from by kernel_rfl]
    simp only [actOf, List.foldl, Act.put, List.drop, List.length, g7, g9, g10, g8, List.setIfInBounds_toArray, List.set_cons_zero, List.set_cons_succ]
    clear hs hn hne g7 g9 g10 g8
    have H2 := Lib.hid (And.intro hview (And.intro (HW.out.2.1.below hb2) (And.intro (HW.out.2.2.1.below hb2) (And.intro (HW.out.2.2.2.below hb2) (HW.out.1.trans (hb2.mono HW.out.1.size))))))
    have l2 := hb2.size
    have lW := HW.out.1.size
    have hlb := (HW.out.2.2.2.below hb2).lt
    clear hview hb2 ks
    go_wp2_with fail
    go_at_call 44
    refine (hcode B n sv g cap (w.heap.size + 1) 0 l ps x ad m (fun _ => False) J w2 H2.out.1 H2.out.2.1 H2.out.2.2.1 H2.out.2.2.2.1 h0 h8 h2 h3 HH.out.2.2.2.1 hfew HH.out.2.2.2.2 HH.out.2.2.1 (by omega) hlen).mono ?_
    rintro e w3 ⟨rfl, hs3, ho3⟩
    have hb3 : Below w.heap.size w w3 := H2.out.2.2.2.2.trans (ho3.below (by have := H2.out.2.2.2.2.size; exact this) (fun k h => by omega))
    have H3 := Lib.hid (And.intro hs3 hb3)
    clear hs3 hb3 ho3
    go_wp2_with fail
    go_at_call 46
    refine (set_sorted (w.heap.size + 1) 900000 _ w3 H3.out.1 (by omega)).mono ?_
    rintro e w4 ⟨v, ss, rfl, h1, h2', h3', h4, h5⟩
    have H4 := Lib.hid (And.intro h1 (And.intro h2' (And.intro h3' (And.intro h4 h5))))
    clear h1 h2' h3' h4 h5
    go_wp2
    go_ret
    exact ⟨v, ss, rfl, H4.out.1, fun z => by rw [H4.out.2.1 z]; simp, row_rebase H4.out.2.2.1 H3.out.2.size, H4.out.2.2.2.1, H3.out.2.trans (H4.out.2.2.2.2.mono H3.out.2.size)⟩
end Go.Proofs.YtkbilipgidcgeaaGreatDoor.Tiny

namespace Go.Proofs.YtkbilipgidcgeaaGreatDoor.Tiny
open Go.RowKit Go.ChangeMaps Go.Maps
attribute [local go_sem] ext_cell ext_frozen
attribute [local irreducible] labCells modC threadC

def rootRegs : List Int := [0, 0, 0, 0, 0, 0, 0, 0, 0, 0, 0, 0, 0, 0, 0, 2304]
/-- The words of the process. -/
def RootS (ps : List Part) (z : Int) : Prop := z = 0 ∨ z = 2304 ∨ z = 512 ∨ (∃ e ∈ hitsL ps 1280 1024, z = hitW e) ∨ ∃ e ∈ hitsL ps 768 256, z = hitW e
abbrev cpuV : List Value := rootRegs.map (Value.int .i64) ++ [Value.int .i64 0]
def midV : List Value := [.int .i64 0, .int .i64 0]
def stkV : List Value := [.int .i64 1280, .int .i64 1024]
def endV (x : Value) : List Value := [x, .slice none 0 0]
theorem thread_split (x : Value) : threadC 2304 x = [] ++ cpuV ++ (midV ++ stkV ++ endV x) := by unfold threadC; rfl
theorem thread_split2 (x : Value) : threadC 2304 x = (cpuV ++ midV) ++ stkV ++ endV x := by unfold threadC; rfl
theorem range_cells {w : World} {b : Nat} {A B C : List Value} {t : TypeId} {fr : Nat × Nat} (h : w.heap[b]? = some (.cells (A ++ B ++ C).toArray t fr)) : w.rangeAt b A.length B := fun j v hv => by
  refine cell_l h (A.length + j) ?_
  rw [List.append_assoc, List.getElem?_append_right (by omega), show A.length + j - A.length = j by omega, List.getElem?_append_left (List.getElem?_eq_some_iff.1 hv).1]
  exact hv
theorem hits_len (ps : List Part) (ad m : Int) (hm : 0 ≤ m) : (hitsL ps ad m).length ≤ ps.length * (m / 8).toNat := by
  unfold hitsL
  induction ps with
  | nil => simp
  | cons p ps ih =>
    rw [List.flatMap_cons, List.length_append, hitL_length, List.length_cons, Nat.succ_mul]
    have : ((min (ad + m) (p.at_ + p.size) - max ad p.at_) / 8).toNat ≤ (m / 8).toNat := by omega
    omega

section
attribute [local semireducible] labCells modC
theorem modC_arr (B : ByteArray) (x y : Int) : (modC B x y).toArray.size = 32 := by unfold modC labCells; rfl
end

set_option maxRecDepth 100000 in
set_option maxHeartbeats 4000000 in
theorem hroots (B : ByteArray) (n : PN) (sv : Value) (g cap : Nat) (l : List Str) (ps : List Part) (x : VN) (w : World) (hV : ViewAt B w x n.p l ps) (hC : Ctx B w n sv g cap l ps)
    (hps : ∀ p ∈ ps, p.at_ + p.size ≤ 1000000) (hkd : ∀ p ∈ ps, p.kind ≠ 3 ∧ p.kind ≠ 4) (hfew : ps.length ≤ 3) (hf1 : ∀ e ∈ hitsL ps 1280 1024, ∀ s ∈ l, Far s e.1) (hf2 : ∀ e ∈ hitsL ps 768 256, ∀ s ∈ l, Far s e.1) (hl : l.length ≤ 1000) :
    Calls Tryz.prog 85 #[.pointer (some ⟨x.v, 0, none⟩)] w fun e w' => ∃ b, e = .returned (.map (some b)) ∧ SetAt w' b 900000 (RootS ps) ∧ w.heap.size ≤ b ∧ Below w.heap.size w w' := by
  have hmm := @run_makeMap Tryz.prog
  have n1 : (hitsL ps 1280 1024).length ≤ 384 := Nat.le_trans (hits_len ps 1280 1024 (by omega)) (by rw [show (1024 / 8 : Int).toNat = 128 from rfl]; omega)
  have n2 : (hitsL ps 768 256).length ≤ 384 := Nat.le_trans (hits_len ps 768 256 (by omega)) (by rw [show (256 / 8 : Int).toNat = 32 from rfl]; omega)
  have HH := Lib.hid (And.intro hV (And.intro hC (And.intro hps (And.intro hkd (And.intro hf1 hf2)))))
  have q0 := cell_l hV.head 0 rfl
  have lv := lt_of_block hV.head
  clear hV hC hps hkd hf1 hf2
  go_enter Tryz.func85, Tryz.ntmps85
  go_upto_region 2 with fail
  refine name_world fun W hW => ?_
  have wB : Below w.heap.size w W := by rw [← hW]; exact (Below.refl _ _).alloc (Nat.le_refl _) _
  have q0' := (wB.cell (p := ⟨x.v, 0, none⟩) lv).trans q0
  have ks : SetAt W w.heap.size 0 (fun _ => False) := by rw [← hW]; exact SetAt.made w
  have lW := ks.lt
  have HW := Lib.hid (And.intro (HH.out.1.below wB) (And.intro (HH.out.2.1.below wB) (And.intro wB ks)))
  clear wB ks q0 hmm hW
  go_wp2_with fail
  go_at_call 49
  refine (hthreads n.p n.s n.b n.l n.gt n.ct n.gc n.cc 2304 sv _ HW.out.2.1.head HW.out.2.1.thread HW.out.2.1.calls).mono ?_
  rintro e w1 ⟨⟨g1, c1, g3, c3, rfl, ht, hcl⟩, hb1⟩
  have l1 := hb1.size
  have lg := ownsRow_lt ht
  have lg3 := ownsRow_lt hcl
  have H1 := Lib.hid (And.intro ht (And.intro hcl hb1))
  have lb : w.heap.size < w1.heap.size := by omega
  clear ht hcl hb1 q0'
  go_wp2_with fail
  refine wp_loop_rounds 2 ?_
  rw [rounds_succ]
  go_upto_region 5 with (first
    | (refine wpList_load_mid rfl 100 (.tmp 21) rfl g1 0 rfl (threadC 2304 (.slice (some ⟨g3, 0, none⟩) 1 c3)) _ (row_range H1.out.1) Tryz.underlying100 rfl (thread_len _ _) ?_)
    | ((with_reducible refine at_store_law ?_); refine wpList_store_row rfl 100 _ _ rfl _ _ rfl rfl _ _ (by (repeat (first | assumption | exact heap_alloc_new _ _ | refine block_old ?_ | refine block_drew ?_ | apply setRow_heap | (refine (setRow_other _ _ _ _ ?_).trans ?_; omega)))) (thread_size _ _) (by rw [thread_arr]; rfl) (thread_all 2304 g3 c3) ?_; (try simp only [World.setRow_alloc_new])))
  refine name_world fun W2 hW2 => ?_
  have b2 : Below w1.heap.size w1 W2 := by rw [← hW2]; exact (Below.refl _ _).alloc (Nat.le_refl _) _
  have k5 : W2.heap[w1.heap.size]? = some (.cells ([] ++ cpuV ++ (midV ++ stkV ++ endV (.slice (some ⟨g3, 0, none⟩) 1 c3))).toArray 100 (0, 0)) := by rw [← hW2, ← thread_split]; exact heap_alloc_new _ _
  have k6 : W2.heap[w1.heap.size]? = some (.cells ((cpuV ++ midV) ++ stkV ++ endV (.slice (some ⟨g3, 0, none⟩) 1 c3)).toArray 100 (0, 0)) := by rw [k5, ← thread_split, thread_split2]
  have c17 := cell_l k5 17 rfl
  have c21 := cell_l k5 21 rfl
  have kr := range_cells k5
  have l2 := lt_of_block k5
  have HW2 := Lib.hid (And.intro b2 (And.intro k6 kr))
  clear hW2 b2 k5 k6 kr
  go_wp2_with (refine wpList_load_mid rfl 97 (.tmp 27) rfl w1.heap.size 0 rfl (rootRegs.map (Value.int .i64) ++ [Value.int .i64 0]) _ HW2.out.2.2 Tryz.underlying97 rfl (by kernel_rfl) ?_)
  go_at_call 178
  refine (set_cpu w.heap.size 0 g3 c3 (fun _ => False) rootRegs [512] 0 W2 ((HW.out.2.2.2.below H1.out.2.2).below HW2.out.1) rfl (fun j hj => by
    obtain rfl : j = 0 := by simpa using hj
    exact (HW2.out.1.cell (p := ⟨g3, 0 + 0, none⟩) (show g3 < w1.heap.size from lg3.2.1)).trans (row_cell H1.out.2.1 0 rfl).1) (by decide) (by decide) (by decide) (by omega) (Nat.lt_trans lg3.2.1 l2) (by simp)).mono ?_
  rintro e w3 ⟨rfl, hs3, ho3⟩
  have H3 := Lib.hid (And.intro hs3 ho3)
  clear hs3 ho3 c17 c21
  have nb : ¬ w1.heap.size = w.heap.size := by omega
  have c22 := cell_l (H3.out.2.kept HW2.out.2.1 nb) 22 rfl
  have kr3 := range_cells (H3.out.2.kept HW2.out.2.1 nb)
  go_wp2_with fail
  have kr4 : w3.rangeAt w1.heap.size 19 [.int .i64 1280, .int .i64 1024] := kr3
  clear kr3
  refine wp_loop_rounds 1 ?_
  rw [rounds_succ]
  have hM2 : MapB W2 w.heap.size := SetAt.mapB ((HW.out.2.2.2.below H1.out.2.2).below HW2.out.1)
  have hv3 := ((HW.out.1.below H1.out.2.2).below HW2.out.1).set hM2 H3.out.2
  have hc3 := ((HW.out.2.1.below H1.out.2.2).below HW2.out.1).set hM2 H3.out.2
  have HV3 := Lib.hid (And.intro hv3 hc3)
  clear hv3 hc3 hM2
  go_wp2_with (refine wpList_load_mid rfl 49 (.tmp 48) rfl w1.heap.size 19 rfl [.int .i64 1280, .int .i64 1024] _ kr4 Tryz.underlying49 rfl (by kernel_rfl) ?_)
  clear kr4 c22
  go_at_call 179
  refine (words_old B n sv g cap w.heap.size 18 l ps x 1280 1024 _ w3 HV3.out.1 HV3.out.2 H3.out.1 (by omega) (by omega) (by omega) (by omega) HH.out.2.2.1 (by omega) HH.out.2.2.2.2.1 hl (by omega)).mono ?_
  rintro e w4 ⟨rfl, hs4, ho4⟩
  have hM3 : MapB w3 w.heap.size := SetAt.mapB H3.out.1
  have hv4 := HV3.out.1.set hM3 ho4
  have hc4 := HV3.out.2.set hM3 ho4
  have hw4 : Below w.heap.size w w4 := (HW.out.2.2.1.trans (H1.out.2.2.mono HW.out.2.2.1.size)).trans ((HW2.out.1.mono (by omega)).trans ((H3.out.2.trans ho4).below (by omega) (fun k h => by omega)))
  have l4 := hw4.size
  have l5 := hs4.lt
  have q3 := cell_l hv4.head 3 rfl
  have H4 := Lib.hid (And.intro hv4 (And.intro hc4 (And.intro hs4 hw4)))
  clear hv4 hc4 hs4 hw4 ho4 hM3
  go_wp2
  rw [rounds_succ]
  go_wp2_with fail
  clear q3
  go_loopw [59] (fun i wr => ∃ k : Nat, k ≤ ps.length ∧ i = .int .i64 k ∧ Below w4.heap.size w4 wr) (fun i _ => ps.length - (vI i).toNat)
  case atStart => exact ⟨0, Nat.zero_le _, rfl, Below.refl _ _⟩
  case round =>
    obtain ⟨k, hk, rfl, hbr⟩ := hrel
    by_cases hlt : k < ps.length
    · obtain ⟨q, hq⟩ : ∃ q, q = ps[k] := ⟨_, rfl⟩
      have hrg := area_range (H4.out.1.below hbr).areas k hlt
      obtain ⟨k3', k4'⟩ := HH.out.2.2.2.1 _ (List.getElem_mem hlt)
      rw [← hq] at hrg k3' k4'
      have k3 : (q.kind == 3) = false := by simpa using k3'
      have k4 : (q.kind == 4) = false := by simpa using k4'
      unfold areaCells at hrg
      have HG := Lib.hid hrg
      have HB := Lib.hid hbr
      clear hrg k3' k4' hbr hq
      go_wp2_with (first
        | (refine wpList_load_mid rfl 105 (.tmp 61) rfl x.ga (k * 5) rfl [.int .i64 q.at_, .int .i64 q.size, .int .i64 q.kind, .int .i64 q.owner, .int .i64 q.mod] _ HG.out Tryz.underlying105 rfl (by kernel_rfl) ?_)
        | ((with_reducible refine at_store_law ?_); refine wpList_store_row rfl _ _ _ rfl _ _ rfl rfl _ _ (by (repeat (first | assumption | exact heap_alloc_new _ _ | refine block_old ?_ | refine block_drew ?_ | apply setRow_heap | (refine (setRow_other _ _ _ _ ?_).trans ?_; omega)))) (by kernel_rfl) (by rfl) (by simp [Value.oneCell']) ?_; (try simp only [World.setRow_alloc_new])))
      go_roundw
      case rel => exact ⟨k + 1, by omega, by go_num, HB.out.alloc HB.out.size _⟩
      case measure => simp [vI]; omega
    · obtain rfl : k = ps.length := by omega
      have hv5 := H4.out.1.below hbr
      have hc5 := H4.out.2.1.below hbr
      have hs5 := H4.out.2.2.1.below hbr
      have hw5 := H4.out.2.2.2.trans (hbr.mono l4)
      have q1 := cell_l hv5.head 1 rfl
      have l6 := hbr.size
      have H5 := Lib.hid (And.intro hv5 (And.intro hc5 (And.intro hs5 hw5)))
      clear hv5 hc5 hs5 hw5 hbr
      go_wp2_with fail
      refine wp_loop_rounds 2 ?_
      rw [rounds_succ]
      go_upto_region 23 with (first
        | (refine wpList_load_mid rfl 91 (.tmp 97) rfl x.gm 0 rfl (modC B 512 1) _ (row_range H5.out.1.mods) Tryz.underlying91 rfl (mod_len _ _ _) ?_)
        | ((with_reducible refine at_store_law ?_); refine wpList_store_row rfl 91 _ _ rfl _ _ rfl rfl _ _ (by (repeat (first | assumption | exact heap_alloc_new _ _ | refine block_old ?_ | refine block_drew ?_ | apply setRow_heap | (refine (setRow_other _ _ _ _ ?_).trans ?_; omega)))) (mod_size _ _ _) (by rw [modC_arr]; rfl) (mod_all _ _ _) ?_; (try simp only [World.setRow_alloc_new])))
      refine name_world fun W6 hW6 => ?_
      have b6 : Below wr.heap.size wr W6 := by rw [← hW6]; exact (Below.refl _ _).alloc (Nat.le_refl _) _
      have k11 : W6.heap[wr.heap.size]? = some (.cells (modC B 512 1).toArray 91 (0, 0)) := by rw [← hW6]; exact heap_alloc_new _ _
      have c2 := cell_l k11 2 (modC_get2 B 512 1)
      have c4 := cell_l k11 4 (modC_get4 B 512 1)
      have c26 := cell_l k11 26 (modC_get26 B 512 1)
      have c30 := cell_l k11 30 (modC_get30 B 512 1)
      have H6 := Lib.hid (And.intro (H5.out.1.below b6) (And.intro (H5.out.2.1.below b6) (And.intro (H5.out.2.2.1.below b6) (H5.out.2.2.2.trans (b6.mono H5.out.2.2.2.size)))))
      have l7 := H6.out.2.2.2.size
      clear hW6 b6 k11 q1
      go_wp2_with fail
      go_at_call 82
      refine (vmapped B x n.p l ps 0 W6 H6.out.1).mono ?_
      rintro e w7 ⟨rfl, rfl⟩
      go_wp2_with fail
      go_at_call 179
      refine (words_old B n sv g cap w.heap.size _ l ps x 768 256 _ w7 H6.out.1 H6.out.2.1 H6.out.2.2.1 (by omega) (by omega) (by omega) (by omega) HH.out.2.2.1 (by omega) HH.out.2.2.2.2.2 hl (by omega)).mono ?_
      rintro e w8 ⟨rfl, hs8, ho8⟩
      have hw8 : Below w.heap.size w w8 := H6.out.2.2.2.trans (ho8.below (by omega) (fun k h => by omega))
      have H8 := Lib.hid (And.intro hs8 hw8)
      clear hs8 hw8 ho8 c2 c4 c26 c30
      go_wp2
      rw [rounds_succ]
      go_wp2
      go_ret
      refine ⟨w.heap.size, rfl, (H8.out.1.up (by omega)).same (fun z => ?_), Nat.le_refl _, H8.out.2⟩
      have hr : z ∈ rootRegs ↔ z = 0 ∨ z = 2304 := by simp [rootRegs]
      unfold RootS
      rw [hr, List.mem_singleton]
      constructor
      · rintro (h | h | (h | h) | h | h | h)
        · exact .inr (.inr (.inr (.inr h)))
        · exact .inr (.inr (.inr (.inl h)))
        · exact .inl h
        · exact .inr (.inl h)
        · exact .inl h
        · exact .inr (.inr (.inl h))
        · exact h.elim
      · rintro (h | h | h | h | h)
        · exact .inr (.inr (.inl (.inl h)))
        · exact .inr (.inr (.inl (.inr h)))
        · exact .inr (.inr (.inr (.inr (.inl h))))
        · exact .inr (.inl h)
        · exact .inl h
end Go.Proofs.YtkbilipgidcgeaaGreatDoor.Tiny

namespace Go.Proofs.YtkbilipgidcgeaaGreatDoor.Tiny
open Go.RowKit Go.ChangeMaps
attribute [local go_sem] ext_cell ext_frozen
attribute [local irreducible] labCells modC threadC

set_option maxRecDepth 100000 in
set_option maxHeartbeats 2000000 in
theorem word_never (B : ByteArray) (n : PN) (sv : Value) (g cap q0 q1 q2 b nn k : Nat) (l : List Str) (ps : List Part) (x : VN) (a : Int) (s : ByteArray) (S : Int → Prop) (w : World) (hV : ViewAt B w x n.p l ps) (hC : Ctx B w n sv g cap l ps) (hS : SetAt w b nn S)
    (h0 : w.cell? ⟨q0, 0, none⟩ = some (.pointer (some ⟨x.v, 0, none⟩))) (h1 : w.cell? ⟨q1, 0, none⟩ = some (.func (.func 45) #[] #[])) (h2 : w.cell? ⟨q2, 0, none⟩ = some (.map (some b))) (l0 : q0 < w.heap.size) (l1 : q1 < w.heap.size) (l2 : q2 < w.heap.size)
    (hk : LastAt ps a k) (hin : a - (ps[k]'hk.lt).at_ + 8 ≤ (ps[k]'hk.lt).size) (hm : a.tmod 8 = 0) (hmax : nn < 900000) :
    Calls Tryz.prog 268 #[.int .i64 a, .string s, .pointer (some ⟨q0, 0, none⟩), .pointer (some ⟨q1, 0, none⟩), .pointer (some ⟨q2, 0, none⟩)] w fun e w' => e = .returned (.tuple #[]) ∧ SetAt w' b (nn + 1) (fun z => z = sgn64 (leN (readL (ps[k]'hk.lt) a 8)) ∨ S z) ∧ Only (· = b) w w' := by
  have HH := Lib.hid (And.intro hV (And.intro hC (And.intro hS (And.intro hin hm))))
  have c0 := cell_l hV.head 0 rfl
  clear hV hC hS hin hm
  go_enter Tryz.func268, Tryz.ntmps268
  go_wp2_with fail
  go_at_call 9
  refine (hspace n.p n.s n.b n.l _ sv _ HH.out.2.1.head).mono ?_
  rintro e w1 ⟨rfl, rfl⟩
  go_wp2_with fail
  go_at_call 10
  refine (load_word n.s g cap ps a w1 HH.out.2.1.ok HH.out.2.1.space k hk _ rfl HH.out.2.2.2.1 HH.out.2.2.2.2).mono ?_
  rintro e w2 ⟨hb2, rfl⟩
  have d1 := (hb2.cell (p := ⟨q1, 0, none⟩) l1).trans h1
  have d2 := (hb2.cell (p := ⟨q2, 0, none⟩) l2).trans h2
  obtain ⟨v, hv⟩ : ∃ v, v = sgn64 (leN (readL (ps[k]'hk.lt) a 8)) := ⟨_, rfl⟩
  rw [← hv]
  have hvr : -9223372036854775808 ≤ v ∧ v ≤ 9223372036854775807 := by rw [hv]; exact sgn64_range _
  have l2' := hb2.size
  have H2 := Lib.hid (And.intro hb2 (And.intro hv (And.intro hvr (And.intro (HH.out.2.2.1.below hb2) (HH.out.1.below hb2)))))
  clear hb2 hv hvr c0 h0 h1 h2
  go_wp2_with fail
  go_at_call 45
  refine (never_any a w2).mono ?_
  rintro e w3 ⟨rfl, hw3⟩
  have hb3 : Below w2.heap.size w2 w3 := by rw [hw3]; exact Below.refl _ _
  clear hw3
  have H3 := Lib.hid (And.intro hb3 (H2.out.2.2.2.1.below hb3))
  have e2 := (hb3.cell (p := ⟨q2, 0, none⟩) (show q2 < w2.heap.size by omega)).trans d2
  have l3 := hb3.size
  clear hb3 d1 d2
  go_wp2_with fail
  go_at_call 93
  refine (set_add b nn w3.heap.size 0 1 S [v] _ (H3.out.2.below ((Below.refl _ _).alloc (Nat.le_refl _) _)) (fun j hj => by
    obtain rfl : j = 0 := by simpa using hj
    exact cell_l (heap_alloc_new w3 (.cells [.int .i64 v].toArray 3)) 0 rfl) (fun z hz => by rw [List.mem_singleton] at hz; rw [hz]; exact wf_int H2.out.2.2.1) (by have := H3.out.2.lt; omega) (by simp) (by simp; omega)).mono ?_
  rintro e w4 ⟨rfl, hs4, ho4⟩
  have H4 := Lib.hid (And.intro hs4 ho4)
  clear hs4 ho4 e2
  go_wp2
  go_end0
  refine ⟨rfl, H4.out.1.same (fun z => ?_), (Only.of_below (H2.out.1.trans (H3.out.1.mono l2'))).trans ((Only.of_below ((Below.refl _ _).alloc (Nat.le_refl _) _)).trans H4.out.2)⟩
  rw [← H2.out.2.1]
  simp

set_option maxRecDepth 100000 in
set_option maxHeartbeats 2000000 in
theorem words_never (B : ByteArray) (n : PN) (sv : Value) (g cap b nn : Nat) (l : List Str) (ps : List Part) (x : VN) (ad m : Int) (S : Int → Prop) (w : World) (hV : ViewAt B w x n.p l ps) (hC : Ctx B w n sv g cap l ps) (hS : SetAt w b nn S)
    (h0 : 0 ≤ ad) (h8 : ad % 8 = 0) (h2 : 0 < m) (h3 : ad + m ≤ 1000000) (hps : ∀ p ∈ ps, p.at_ + p.size ≤ 1000000) (hfew : ps.length ≤ 1000) (hmax : nn + (hitsL ps ad m).length < 900000) :
    Calls Tryz.prog 179 #[.pointer (some ⟨x.v, 0, none⟩), .map (some b), .agg #[.int .i64 ad, .int .i64 m], .func (.func 45) #[] #[]] w fun e w' => e = .returned (.tuple #[]) ∧ SetAt w' b (nn + (hitsL ps ad m).length) (fun z => (∃ e ∈ hitsL ps ad m, z = hitW e) ∨ S z) ∧ Only (· = b) w w' := by
  have HH := Lib.hid (And.intro hV (And.intro hC hS))
  have hbl := hS.lt
  clear hV hC hS
  go_enter Tryz.func179, Tryz.ntmps179
  go_upto_region 1 with fail
  refine name_world fun W hW => ?_
  have wB : Below w.heap.size w W := by rw [← hW]; go_grown
  have c0 : W.cell? ⟨w.heap.size, 0, none⟩ = some (.pointer (some ⟨x.v, 0, none⟩)) := by rw [← hW]; exact cell_in (block_old (block_old (block_old (heap_alloc_new w _)))) 0 rfl
  have c1 : W.cell? ⟨w.heap.size + 1, 0, none⟩ = some (.map (some b)) := by rw [← hW]; exact cell_in (block_old (block_old (heap_alloc2_new w _ _))) 0 rfl
  have c3 : W.cell? ⟨w.heap.size + 3, 0, none⟩ = some (.func (.func 45) #[] #[]) := by rw [← hW]; exact cell_in (block_at (by simp)) 0 rfl
  have ks : W.heap[w.heap.size + 1 + 1]? = some (.cells [.int .i64 ad, .int .i64 m].toArray 49 (0, 0)) := by rw [← hW]; exact block_old (block_at (o := .cells #[.int .i64 ad, .int .i64 m] 49) (by simp))
  have lW : W.heap.size = w.heap.size + 4 := by rw [← hW]; simp
  have HW := Lib.hid (And.intro wB (And.intro c0 (And.intro c1 c3)))
  clear hW wB c1 c3
  go_wp2_with (refine wpList_load_row rfl 49 (.tmp 6) rfl (w.heap.size + 1 + 1) rfl 49 [.int .i64 ad, .int .i64 m].toArray (0, 0) _ ks Tryz.underlying49 rfl (by kernel_rfl) ?_)
  go_at_call 90
  refine (each_words B n sv g cap w.heap.size (w.heap.size + 1 + 1 + 1) (w.heap.size + 1) l ps x ad m (fun k W' => ViewAt B W' x n.p l ps ∧ Ctx B W' n sv g cap l ps ∧ SetAt W' b (nn + k) (fun z => (∃ j, ∃ h : j < (hitsL ps ad m).length, j < k ∧ z = hitW ((hitsL ps ad m)[j])) ∨ S z) ∧
      (W'.cell? ⟨w.heap.size, 0, none⟩ = some (.pointer (some ⟨x.v, 0, none⟩)) ∧ W'.cell? ⟨w.heap.size + 1, 0, none⟩ = some (.map (some b)) ∧ W'.cell? ⟨w.heap.size + 1 + 1 + 1, 0, none⟩ = some (.func (.func 45) #[] #[])) ∧ w.heap.size + 4 ≤ W'.heap.size ∧ Only (· = b) w W') W h0 h8 h2 h3 hps hfew (fun k W' h => ⟨h.1, h.2.1⟩) ?_ ?_ ?_).mono ?_
  · intro k W' W'' h hb
    refine ⟨h.1.below hb, h.2.1.below hb, h.2.2.1.below hb, ⟨(hb.cell (p := ⟨w.heap.size, 0, none⟩) (show w.heap.size < W'.heap.size from by have := h.2.2.2.2.1; omega)).trans h.2.2.2.1.1, (hb.cell (p := ⟨w.heap.size + 1, 0, none⟩) (show w.heap.size + 1 < W'.heap.size from by have := h.2.2.2.2.1; omega)).trans h.2.2.2.1.2.1, (hb.cell (p := ⟨w.heap.size + 1 + 1 + 1, 0, none⟩) (show w.heap.size + 1 + 1 + 1 < W'.heap.size from by have := h.2.2.2.2.1; omega)).trans h.2.2.2.1.2.2⟩, Nat.le_trans h.2.2.2.2.1 hb.size, h.2.2.2.2.2.trans (Only.of_below hb)⟩
  · obtain ⟨wB, d0, d1, d3⟩ := HW.out
    exact ⟨HH.out.1.below wB, HH.out.2.1.below wB, (HH.out.2.2.below wB).same (fun z => by simp), ⟨d0, d1, d3⟩, Nat.le_of_eq lW.symm, Only.of_below wB⟩
  · intro k hk W' h
    obtain ⟨hV', hC', hS', ⟨d0, d1, d3⟩, hl', ho'⟩ := h
    obtain ⟨k', hk', f1, f2, f3, f4, f5⟩ := hit_facts hC'.ok h0 h8 (List.getElem_mem hk)
    refine (word_never B n sv g cap w.heap.size (w.heap.size + 1 + 1 + 1) (w.heap.size + 1) b (nn + k) k' l ps x _ _ _ W' hV' hC' hS' d0 d3 d1 (by omega) (by omega) (by omega) hk' f1 f2 (by omega)).mono ?_
    rintro e w' ⟨he, hs1, ho1⟩
    have hM : MapB W' b := SetAt.mapB hS'
    refine ⟨he, ⟨hV'.set hM ho1, hC'.set hM ho1, hs1.same (fun z => ?_), ⟨(ho1.cell (by omega) (by omega)).trans d0, (ho1.cell (by omega) (by omega)).trans d1, (ho1.cell (by omega) (by omega)).trans d3⟩, Nat.le_trans hl' ho1.size, ho'.trans ho1⟩, keeps_only hM ho1⟩
    have hv : hitW ((hitsL ps ad m)[k]) = sgn64 (leN (readL (ps[k']'hk'.lt) ((hitsL ps ad m)[k]).1 8)) := by unfold hitW; rw [f3]
    rw [← hv]
    constructor
    · rintro (hz | ⟨j, hj, hjk, hz⟩ | hz)
      · exact .inl ⟨k, hk, by omega, hz⟩
      · exact .inl ⟨j, hj, by omega, hz⟩
      · exact .inr hz
    · rintro (⟨j, hj, hjk, hz⟩ | hz)
      · by_cases e : j = k
        · subst e; exact .inl hz
        · exact .inr (.inl ⟨j, hj, by omega, hz⟩)
      · exact .inr (.inr hz)
  rintro e w2 ⟨rfl, -, -, hs2, -, -, ho2⟩
  have H2 := Lib.hid (And.intro hs2 ho2)
  clear hs2 ho2
  go_wp2
  go_end0
  refine ⟨rfl, H2.out.1.same (fun z => ?_), H2.out.2⟩
  constructor
  · rintro (⟨j, hj, -, hz⟩ | hz)
    · exact .inl ⟨_, List.getElem_mem hj, hz⟩
    · exact .inr hz
  · rintro (⟨e, he, hz⟩ | hz)
    · obtain ⟨j, hj, rfl⟩ := List.getElem_of_mem he
      exact .inl ⟨j, hj, hj, hz⟩
    · exact .inr hz
end Go.Proofs.YtkbilipgidcgeaaGreatDoor.Tiny

namespace Go.Proofs.YtkbilipgidcgeaaGreatDoor.Tiny
open Go.RowKit Go.ChangeMaps Go.Maps
attribute [local go_sem] ext_cell ext_frozen
attribute [local irreducible] labCells modC threadC

theorem grow_load_mid {P : Program} {o : Oper} {a : Act} {w : World} {K : Value → World → Prop} (x : Tmp) (ty : TypeId) (ho : o.op = .load ty (.tmp x))
    (b off : Nat) (hx : a.tmps[x]?.getD undef = .pointer (some ⟨b, off, none⟩)) (cs : List Value) (d : TypeDesc) (hc : w.rangeAt b off cs)
    (hu : P.underlying ty = some d) (hd : d.isRow = true) (hi : (P.info? ty).map (·.size) = some cs.length) (h : K (.agg cs.toArray) w) : opGrow P o a w K :=
  grow_value (by simp [execOp, ho, Act.eval, hx, Instr.loadAt, Instr.sureAddr, run_loadVar_mid w b off ty cs d hc hu hd hi]) (Below.refl _ _) h
theorem str_row {w : World} {base : Nat} {v : Value} {l : List Str} (h : StrAt w base v l) (hl : 0 < l.length) : ∃ g cap, v = .slice (some ⟨g, 0, none⟩) l.length cap ∧ w.ownsRow base 125 7 (.slice (some ⟨g, 0, none⟩) l.length cap) l.length (strsCells l) := by
  rcases h with ⟨_, h⟩ | ⟨g, cap, rfl, _, h⟩
  · rw [h] at hl; simp at hl
  · exact ⟨g, cap, rfl, h⟩
theorem str_span {w : World} {base g cap : Nat} {l : List Str} (h : w.ownsRow base 125 7 (.slice (some ⟨g, 0, none⟩) l.length cap) l.length (strsCells l)) (k : Nat) (hk : k < l.length) : w.rangeAt g (k * 7 + 5) [.int .i64 l[k].at_, .int .i64 l[k].size] := by
  intro j v hv
  have := str_range h k hk (5 + j) v (by
    match j, hv with
    | 0, hv => exact hv
    | 1, hv => exact hv
    | j + 2, hv => simp at hv)
  rw [Nat.add_assoc]
  exact this

set_option maxRecDepth 100000 in
set_option maxHeartbeats 4000000 in
theorem smet (B : ByteArray) (x : VN) (p b nn i : Nat) (l : List Str) (ps : List Part) (S : Int → Prop) (r : Bool) (w : World) (hV : ViewAt B w x p l ps) (hS : SetAt w b nn S) (hi : i < l.length)
    (h0 : 0 ≤ l[i].at_) (h1 : l[i].at_ ≤ 1000000) (h2 : 0 ≤ l[i].size) (h3 : l[i].size ≤ 1000000) (hr : r = true ↔ ∃ z, S z ∧ l[i].at_ ≤ z ∧ z - l[i].at_ ≤ l[i].size) :
    Calls Tryz.prog 400 #[.agg #[.pointer (some ⟨x.v, 0, none⟩), .int .i64 i], .map (some b)] w fun e w' => e = .returned (.bool r) ∧ Below w.heap.size w w' := by
  obtain ⟨sg, sc, hsv, hrow⟩ := str_row hV.strs (by omega)
  have hhd := hV.head
  rw [hsv] at hhd
  have HH := Lib.hid (And.intro hrow (And.intro hS hr))
  have hil : (i : Int) < (l.length : Int) := by omega
  clear hV hS hrow hr
  go_enter Tryz.func400, Tryz.ntmps400
  go_upto_region 1 with fail
  refine name_world fun W hW => ?_
  have wB : Below w.heap.size w W := by rw [← hW]; go_grown
  have ks : W.heap[w.heap.size]? = some (.cells [.pointer (some ⟨x.v, 0, none⟩), .int .i64 i].toArray 175 (0, 0)) := by rw [← hW]; exact heap_alloc_new w _
  have kh := (wB.block _ (lt_of_block hhd)).trans hhd
  have HW := Lib.hid (And.intro wB (And.intro (ownsRow_below' HH.out.1 wB) (HH.out.2.1.below wB)))
  clear hW wB hhd
  refine wp_region_facts [.val (.map (some b)), .val (.pointer (some ⟨w.heap.size, 0, none⟩)), .val (.pointer (some ⟨x.v, 0, none⟩)), .val (.pointer (some ⟨x.v, 0, none⟩)), .val (.pointer (some ⟨x.v, 2, none⟩)), .val (.slice (some ⟨sg, 0, none⟩) l.length sc), .val (.pointer (some ⟨w.heap.size, 1, none⟩)), .val (.int .i64 (i : Int)), .val (.pointer (some ⟨sg, i * 7, none⟩)), .val (.pointer (some ⟨sg, i * 7 + 5, none⟩)), .val (.agg [.int .i64 l[i].at_, .int .i64 l[i].size].toArray)] (by kernel_rfl) (by kernel_rfl) ?_ ?_
  · simp only [stepsAll, List.take, List.length]
    refine ⟨?_, ?_, ?_, ?_, ?_, ?_, ?_, ?_, ?_, ?_, ?_, ?_⟩
    all_goals first | trivial | (intro a wz hb hf hd)
    all_goals have hf1 : a.tmps[(1 : Nat)]?.getD undef = .map (some b) := (hf 1 (by decide +kernel)).trans rfl
    all_goals have hf2 : a.tmps[(2 : Nat)]?.getD undef = .pointer (some ⟨w.heap.size, 0, none⟩) := (hf 2 (by decide +kernel)).trans rfl
    · exact grow_tmp _ rfl ⟨hf1, fun h => by cases h⟩
    · exact grow_value (v := .pointer (some ⟨w.heap.size, 0, none⟩)) (by simp [execOp, hf2, go_sem]) (Below.refl _ _) ⟨rfl, fun h => by cases h⟩
    · have h6 : a.tmps[(6 : Nat)]?.getD undef = .pointer (some ⟨w.heap.size, 0, none⟩) := hd 1 (by simp) (by kernel_rfl)
      have hc := cell_l ((hb.block _ (lt_of_block ks)).trans ks) 0 (rfl)
      exact grow_value (v := .pointer (some ⟨x.v, 0, none⟩)) (by simp [execOp, h6, hc, go_sem]) (Below.refl _ _) ⟨rfl, fun h => by cases h⟩
    · have h7 : a.tmps[(7 : Nat)]?.getD undef = .pointer (some ⟨x.v, 0, none⟩) := hd 2 (by simp) (by kernel_rfl)
      exact grow_value (v := .pointer (some ⟨x.v, 0, none⟩)) (by simp [execOp, h7, go_sem]) (Below.refl _ _) ⟨rfl, fun h => by cases h⟩
    · have h8 : a.tmps[(8 : Nat)]?.getD undef = .pointer (some ⟨x.v, 0, none⟩) := hd 3 (by simp) (by kernel_rfl)
      exact grow_value (v := .pointer (some ⟨x.v, 2, none⟩)) (by simp [execOp, h8, go_sem]) (Below.refl _ _) ⟨rfl, fun h => by cases h⟩
    · have h9 : a.tmps[(9 : Nat)]?.getD undef = .pointer (some ⟨x.v, 2, none⟩) := hd 4 (by simp) (by kernel_rfl)
      have hc := cell_l ((hb.block _ (lt_of_block kh)).trans kh) 2 (rfl)
      exact grow_value (v := .slice (some ⟨sg, 0, none⟩) l.length sc) (by simp [execOp, h9, hc, go_sem]) (Below.refl _ _) ⟨rfl, fun h => by cases h⟩
    · exact grow_value (v := .pointer (some ⟨w.heap.size, 1, none⟩)) (by simp [execOp, hf2, go_sem]) (Below.refl _ _) ⟨rfl, fun h => by cases h⟩
    · have h11 : a.tmps[(11 : Nat)]?.getD undef = .pointer (some ⟨w.heap.size, 1, none⟩) := hd 6 (by simp) (by kernel_rfl)
      have hc := cell_l ((hb.block _ (lt_of_block ks)).trans ks) 1 (rfl)
      exact grow_value (v := .int .i64 (i : Int)) (by simp [execOp, h11, hc, go_sem]) (Below.refl _ _) ⟨rfl, fun h => by cases h⟩
    · have h10 : a.tmps[(10 : Nat)]?.getD undef = .slice (some ⟨sg, 0, none⟩) l.length sc := hd 5 (by simp) (by kernel_rfl)
      have h12 : a.tmps[(12 : Nat)]?.getD undef = .int .i64 (i : Int) := hd 7 (by simp) (by kernel_rfl)
      exact grow_value (v := .pointer (some ⟨sg, i * 7, none⟩)) (by simp [execOp, h10, h12, hil, hi, go_sem]) (Below.refl _ _) ⟨rfl, fun h => by cases h⟩
    · have h13 : a.tmps[(13 : Nat)]?.getD undef = .pointer (some ⟨sg, i * 7, none⟩) := hd 8 (by simp) (by kernel_rfl)
      exact grow_value (v := .pointer (some ⟨sg, i * 7 + 5, none⟩)) (by simp [execOp, h13, go_sem]) (Below.refl _ _) ⟨rfl, fun h => by cases h⟩
    · have h14 : a.tmps[(14 : Nat)]?.getD undef = .pointer (some ⟨sg, i * 7 + 5, none⟩) := hd 9 (by simp) (by kernel_rfl)
      exact grow_load_mid 14 49 rfl sg (i * 7 + 5) h14 _ _ (str_span (ownsRow_below' HW.out.2.1 hb) i hi) Tryz.underlying49 rfl (by kernel_rfl) ⟨rfl, fun h => by cases h⟩
  · intro fv w2 hb2 hs hn hne
    have g5 : fv 5 = .map (some b) := hs 0 (by simp)
    have g6 : fv 6 = .pointer (some ⟨w.heap.size, 0, none⟩) := hs 1 (by simp)
    have g7 : fv 7 = .pointer (some ⟨x.v, 0, none⟩) := hs 2 (by simp)
    have g8 : fv 8 = .pointer (some ⟨x.v, 0, none⟩) := hs 3 (by simp)
    have g9 : fv 9 = .pointer (some ⟨x.v, 2, none⟩) := hs 4 (by simp)
    have g10 : fv 10 = .slice (some ⟨sg, 0, none⟩) l.length sc := hs 5 (by simp)
    have g11 : fv 11 = .pointer (some ⟨w.heap.size, 1, none⟩) := hs 6 (by simp)
    have g12 : fv 12 = .int .i64 (i : Int) := hs 7 (by simp)
    have g13 : fv 13 = .pointer (some ⟨sg, i * 7, none⟩) := hs 8 (by simp)
    have g14 : fv 14 = .pointer (some ⟨sg, i * 7 + 5, none⟩) := hs 9 (by simp)
    have g15 : fv 15 = .agg [.int .i64 l[i].at_, .int .i64 l[i].size].toArray := hs 10 (by simp)
    rw [show (List.range (List.length _)).map (dstOf _) = [5, 6, 7, 8, 9, 10, 11, 12, 13, 14, 15] from by kernel_rfl]
    simp only [actOf, List.foldl, Act.put, List.drop, List.length, g5, g6, g7, g8, g9, g10, g11, g12, g13, g14, g15, List.setIfInBounds_toArray, List.set_cons_zero, List.set_cons_succ]
    clear hs hn hne g5 g6 g7 g8 g9 g10 g11 g12 g13 g14 g15
    have H2 := Lib.hid (And.intro (HW.out.2.2.below hb2) (HW.out.1.trans (hb2.mono HW.out.1.size)))
    clear ks kh hb2
    go_wp2_with fail
    go_at_call 402
    refine (set_meets b nn S _ _ r w2 H2.out.1 h0 (by omega) h2 (by omega) HH.out.2.2).mono ?_
    rintro e w3 ⟨rfl, hb3⟩
    have H3 := Lib.hid (H2.out.2.trans (hb3.mono H2.out.2.size))
    clear hb3
    go_wp2
    go_ret
    exact ⟨rfl, H3.out⟩
end Go.Proofs.YtkbilipgidcgeaaGreatDoor.Tiny

namespace Go.Proofs.YtkbilipgidcgeaaGreatDoor.Tiny
open Go.RowKit Go.ChangeMaps Go.Maps
attribute [local go_sem] ext_cell ext_frozen
attribute [local irreducible] labCells modC threadC

theorem str_all (s : Str) : (strCells s).toArray.all (·.oneCell') = true := by simp [strCells, Value.oneCell']
theorem str_size (s : Str) : (Tryz.prog.info? 125).map (·.size) = some (strCells s).toArray.size := by kernel_rfl
theorem str_arr (s : Str) : (strCells s).toArray.size = 7 := rfl

set_option maxRecDepth 100000 in
set_option maxHeartbeats 4000000 in
theorem sown (B : ByteArray) (n : PN) (sv : Value) (g cap i : Nat) (l : List Str) (ps : List Part) (x : VN) (J : List InsR) (w : World) (hV : ViewAt B w x n.p l ps) (hC : Ctx B w n sv g cap l ps) (hF : Forms w) (hi : i < l.length) (hk : l[i].kind = 0)
    (h0 : 0 ≤ l[i].at_) (h8 : l[i].at_ % 8 = 0) (h2 : 0 < l[i].size) (h3 : l[i].at_ + l[i].size ≤ 1000000) (hps : ∀ p ∈ ps, p.at_ + p.size ≤ 1000000) (hfew : ps.length ≤ 1000) (hJ : J.length = (hitsL ps l[i].at_ l[i].size).length)
    (hD : ∀ k (h1 : k < (hitsL ps l[i].at_ l[i].size).length) (h2 : k < J.length), DecOk ((hitsL ps l[i].at_ l[i].size)[k]).2 J[k]) (hlen : J.length ≤ 80) :
    Calls Tryz.prog 401 #[.agg #[.pointer (some ⟨x.v, 0, none⟩), .int .i64 i]] w fun e w' => ∃ b, e = .returned (.map (some b)) ∧
      SetAt w' b 900000 (fun z => MadeTo (hitsL ps l[i].at_ l[i].size) J J.length z ∨ Comb (lowsJ J) (highsJ J) z ∨ ∃ e ∈ hitsL ps l[i].at_ l[i].size, z = hitW e) ∧ w.heap.size ≤ b ∧ Below w.heap.size w w' := by
  have hmm := @run_makeMap Tryz.prog
  obtain ⟨sg, sc, hsv, hrow⟩ := str_row hV.strs (by omega)
  have hhd := hV.head
  rw [hsv] at hhd
  have HH := Lib.hid (And.intro hrow (And.intro hV (And.intro hC (And.intro hF (And.intro hps (And.intro hJ hD))))))
  have hil : (i : Int) < (l.length : Int) := by omega
  obtain ⟨ad, had⟩ : ∃ ad, ad = l[i].at_ := ⟨_, rfl⟩
  obtain ⟨m, hm⟩ : ∃ m, m = l[i].size := ⟨_, rfl⟩
  rw [← had, ← hm] at HH
  rw [← had] at h0 h8
  rw [← hm] at h2
  rw [← had, ← hm] at h3
  rw [← had, ← hm]
  have HK := Lib.hid (And.intro hk (And.intro had hm))
  clear hV hC hF hrow hps hJ hD hk had hm
  go_enter Tryz.func401, Tryz.ntmps401
  go_upto_region 1 with fail
  refine name_world fun W hW => ?_
  have wB : Below w.heap.size w W := by rw [← hW]; go_grown
  have ks : W.heap[w.heap.size]? = some (.cells [.pointer (some ⟨x.v, 0, none⟩), .int .i64 i].toArray 175 (0, 0)) := by rw [← hW]; exact heap_alloc_new w _
  have kh := (wB.block _ (lt_of_block hhd)).trans hhd
  have HW := Lib.hid (And.intro wB (ownsRow_below' HH.out.1 wB))
  clear hW wB hhd
  refine wp_region_facts [.val (.pointer (some ⟨w.heap.size, 0, none⟩)), .val (.pointer (some ⟨x.v, 0, none⟩)), .val (.pointer (some ⟨x.v, 0, none⟩)), .val (.pointer (some ⟨x.v, 2, none⟩)), .val (.slice (some ⟨sg, 0, none⟩) l.length sc), .val (.pointer (some ⟨w.heap.size, 1, none⟩)), .val (.int .i64 (i : Int)), .val (.pointer (some ⟨sg, i * 7, none⟩)), .val (.agg (strCells l[i]).toArray), .blk (fun b => .pointer (some ⟨b, 0, none⟩)) (.cells #[.int .i64 0, .string ⟨#[]⟩, .string ⟨#[]⟩, .string ⟨#[]⟩, .int .i64 0, .int .i64 0, .int .i64 0] 125)] (by kernel_rfl) (by kernel_rfl) ?_ ?_
  · simp only [stepsAll, List.take, List.length]
    refine ⟨?_, ?_, ?_, ?_, ?_, ?_, ?_, ?_, ?_, ?_, ?_⟩
    all_goals first | trivial | (intro a wz hb hf hd)
    all_goals have hf1 : a.tmps[(1 : Nat)]?.getD undef = .pointer (some ⟨w.heap.size, 0, none⟩) := (hf 1 (by decide +kernel)).trans rfl
    · exact grow_value (v := .pointer (some ⟨w.heap.size, 0, none⟩)) (by simp [execOp, hf1, go_sem]) (Below.refl _ _) ⟨rfl, fun h => by cases h⟩
    · have h5 : a.tmps[(5 : Nat)]?.getD undef = .pointer (some ⟨w.heap.size, 0, none⟩) := hd 0 (by simp) (by kernel_rfl)
      have hc := cell_l ((hb.block _ (lt_of_block ks)).trans ks) 0 (rfl)
      exact grow_value (v := .pointer (some ⟨x.v, 0, none⟩)) (by simp [execOp, h5, hc, go_sem]) (Below.refl _ _) ⟨rfl, fun h => by cases h⟩
    · have h6 : a.tmps[(6 : Nat)]?.getD undef = .pointer (some ⟨x.v, 0, none⟩) := hd 1 (by simp) (by kernel_rfl)
      exact grow_value (v := .pointer (some ⟨x.v, 0, none⟩)) (by simp [execOp, h6, go_sem]) (Below.refl _ _) ⟨rfl, fun h => by cases h⟩
    · have h7 : a.tmps[(7 : Nat)]?.getD undef = .pointer (some ⟨x.v, 0, none⟩) := hd 2 (by simp) (by kernel_rfl)
      exact grow_value (v := .pointer (some ⟨x.v, 2, none⟩)) (by simp [execOp, h7, go_sem]) (Below.refl _ _) ⟨rfl, fun h => by cases h⟩
    · have h8 : a.tmps[(8 : Nat)]?.getD undef = .pointer (some ⟨x.v, 2, none⟩) := hd 3 (by simp) (by kernel_rfl)
      have hc := cell_l ((hb.block _ (lt_of_block kh)).trans kh) 2 (rfl)
      exact grow_value (v := .slice (some ⟨sg, 0, none⟩) l.length sc) (by simp [execOp, h8, hc, go_sem]) (Below.refl _ _) ⟨rfl, fun h => by cases h⟩
    · exact grow_value (v := .pointer (some ⟨w.heap.size, 1, none⟩)) (by simp [execOp, hf1, go_sem]) (Below.refl _ _) ⟨rfl, fun h => by cases h⟩
    · have h10 : a.tmps[(10 : Nat)]?.getD undef = .pointer (some ⟨w.heap.size, 1, none⟩) := hd 5 (by simp) (by kernel_rfl)
      have hc := cell_l ((hb.block _ (lt_of_block ks)).trans ks) 1 (rfl)
      exact grow_value (v := .int .i64 (i : Int)) (by simp [execOp, h10, hc, go_sem]) (Below.refl _ _) ⟨rfl, fun h => by cases h⟩
    · have h9 : a.tmps[(9 : Nat)]?.getD undef = .slice (some ⟨sg, 0, none⟩) l.length sc := hd 4 (by simp) (by kernel_rfl)
      have h11 : a.tmps[(11 : Nat)]?.getD undef = .int .i64 (i : Int) := hd 6 (by simp) (by kernel_rfl)
      exact grow_value (v := .pointer (some ⟨sg, i * 7, none⟩)) (by simp [execOp, h9, h11, hil, hi, go_sem]) (Below.refl _ _) ⟨rfl, fun h => by cases h⟩
    · have h12 : a.tmps[(12 : Nat)]?.getD undef = .pointer (some ⟨sg, i * 7, none⟩) := hd 7 (by simp) (by kernel_rfl)
      exact grow_load_mid 12 125 rfl sg (i * 7) h12 _ _ (str_range (ownsRow_below' HW.out.2 hb) i hi) Tryz.underlying125 rfl (str_len _) ⟨rfl, fun h => by cases h⟩
    · exact grow_value (v := .pointer (some ⟨wz.heap.size, 0, none⟩)) (w' := wz.alloc (.cells #[.int .i64 0, .string ⟨#[]⟩, .string ⟨#[]⟩, .string ⟨#[]⟩, .int .i64 0, .int .i64 0, .int .i64 0] 125)) (by simp [execOp, go_sem]; try rfl) ((Below.refl _ _).alloc (Nat.le_refl _) _) ⟨⟨_, rfl, heap_alloc_new _ _⟩, fun _ b hb => new_ptr hb⟩
  · intro fv w2 hb2 hs hn hne
    have g5 : fv 5 = .pointer (some ⟨w.heap.size, 0, none⟩) := hs 0 (by simp)
    have g6 : fv 6 = .pointer (some ⟨x.v, 0, none⟩) := hs 1 (by simp)
    have g7 : fv 7 = .pointer (some ⟨x.v, 0, none⟩) := hs 2 (by simp)
    have g8 : fv 8 = .pointer (some ⟨x.v, 2, none⟩) := hs 3 (by simp)
    have g9 : fv 9 = .slice (some ⟨sg, 0, none⟩) l.length sc := hs 4 (by simp)
    have g10 : fv 10 = .pointer (some ⟨w.heap.size, 1, none⟩) := hs 5 (by simp)
    have g11 : fv 11 = .int .i64 (i : Int) := hs 6 (by simp)
    have g12 : fv 12 = .pointer (some ⟨sg, i * 7, none⟩) := hs 7 (by simp)
    have g13 : fv 13 = .agg (strCells l[i]).toArray := hs 8 (by simp)
    obtain ⟨bs, g3, kbs⟩ : ∃ bs, fv 3 = .pointer (some ⟨bs, 0, none⟩) ∧ w2.heap[bs]? = some (.cells #[.int .i64 0, .string ⟨#[]⟩, .string ⟨#[]⟩, .string ⟨#[]⟩, .int .i64 0, .int .i64 0, .int .i64 0] 125) := hs 9 (by simp)
    have hbs : W.heap.size ≤ bs ∧ bs < w2.heap.size := hn 9 (by simp) rfl bs (by rw [show dstOf _ 9 = 3 from by kernel_rfl, g3]; rfl)
    rw [show (List.range (List.length _)).map (dstOf _) = [5, 6, 7, 8, 9, 10, 11, 12, 13, 3] from by kernel_rfl]
    simp only [actOf, List.foldl, Act.put, List.drop, List.length, g5, g6, g7, g8, g9, g10, g11, g12, g13, g3, List.setIfInBounds_toArray, List.set_cons_zero, List.set_cons_succ]
    clear hs hn hne g5 g6 g7 g8 g9 g10 g11 g12 g13 g3
    have lW := HW.out.1.size
    have l2 := hb2.size
    have HB := Lib.hid hb2
    clear hb2
    go_upto_region 3 with ((with_reducible refine at_store_law ?_); refine wpList_store_row rfl 125 _ _ rfl _ _ rfl rfl _ _ kbs (str_size _) (by rw [str_arr]; rfl) (str_all _) ?_)
    have bS : Below W.heap.size W (w2.setRow bs (strCells l[i]).toArray) := ((Only.of_below_le HB.out (fun k _ h => h) : Only (fun b => W.heap.size ≤ b) W w2).setRow _ _ (.inl hbs.1)).below (Nat.le_refl _) (fun k h => h)
    have e2 : (w2.setRow bs (strCells l[i]).toArray).heap.size = w2.heap.size := by simp
    have kS : (w2.setRow bs (strCells l[i]).toArray).heap[bs]? = some (.cells (strCells l[i]).toArray 125 (0, 0)) := setRow_heap _ _ _ _ _ _ kbs
    obtain ⟨W2, hW2⟩ : ∃ W2, W2 = w2.setRow bs (strCells l[i]).toArray := ⟨_, rfl⟩
    rw [← hW2] at bS e2 kS
    rw [← hW2]
    clear hW2 kbs
    refine name_world fun W3 hW3 => ?_
    have b3 : Below W2.heap.size W2 W3 := by rw [← hW3]; exact (Below.refl _ _).alloc (Nat.le_refl _) _
    have km : SetAt W3 W2.heap.size 0 (fun _ => False) := by rw [← hW3]; exact SetAt.made W2
    rw [e2] at km
    have k3 : W3.heap[bs]? = some (.cells (strCells l[i]).toArray 125 (0, 0)) := (b3.block _ (lt_of_block kS)).trans kS
    have bw : Below w.heap.size w W3 := HW.out.1.trans ((bS.trans (b3.mono bS.size)).mono lW)
    have c0 := cell_l ((b3.block _ (Nat.lt_of_lt_of_le (lt_of_block ks) bS.size)).trans ((bS.block _ (lt_of_block ks)).trans ks)) 0 rfl
    have sp : W3.rangeAt bs 5 [.int .i64 ad, .int .i64 m] := fun j v hv => by
      rw [HK.out.2.1, HK.out.2.2] at hv
      match j, hv with
      | 0, hv => exact (cell_l k3 5 rfl).trans hv
      | 1, hv => exact (cell_l k3 6 rfl).trans hv
      | j + 2, hv => simp at hv
    have ck : W3.cell? ⟨bs, 4, none⟩ = some (.int .i64 0) := by rw [← HK.out.1]; exact cell_l k3 4 rfl
    have H3 := Lib.hid (And.intro (HH.out.2.1.below bw) (And.intro (HH.out.2.2.1.below bw) (And.intro (HH.out.2.2.2.1.below bw) (And.intro km bw))))
    have lm := km.lt
    have l3 := bw.size
    have lx := HH.out.2.1.head
    have lb3 := lt_of_block k3
    have HS := Lib.hid (And.intro sp k3)
    clear hW3 b3 km bw bS kS ks kh lx k3
    go_wp2_with (refine wpList_load_mid rfl 49 (.tmp 18) rfl bs 5 rfl [.int .i64 ad, .int .i64 m] _ sp Tryz.underlying49 rfl (by kernel_rfl) ?_)
    clear sp
    go_at_call 179
    refine (words_never B n sv g cap w2.heap.size 0 l ps x ad m _ W3 H3.out.1 H3.out.2.1 H3.out.2.2.2.1 h0 h8 h2 h3 HH.out.2.2.2.2.1 hfew (by rw [← HH.out.2.2.2.2.2.1]; omega)).mono ?_
    rintro e w4 ⟨rfl, hs4, ho4⟩
    have hM : MapB W3 w2.heap.size := SetAt.mapB H3.out.2.2.2.1
    have nbs : ¬ bs = w2.heap.size := by omega
    have k4 := ho4.kept HS.out.2 nbs
    have ck4 := (ho4.cell (show bs < W3.heap.size by omega) nbs).trans ck
    have sp4 : w4.rangeAt bs 5 [.int .i64 ad, .int .i64 m] := fun j v hv => (ho4.cell (show bs < W3.heap.size by omega) nbs).trans (HS.out.1 j v hv)
    have c04 := (ho4.cell (b := w.heap.size) (i := 0) (show w.heap.size < W3.heap.size by omega) (show ¬ w.heap.size = w2.heap.size by omega)).trans c0
    have hM0 : ¬ 0 = w2.heap.size := by omega
    have hs4' : SetAt w4 w2.heap.size J.length (fun z => (∃ e ∈ hitsL ps ad m, z = hitW e) ∨ False) := by rw [HH.out.2.2.2.2.2.1, ← Nat.zero_add (hitsL ps ad m).length]; exact hs4
    have H4 := Lib.hid (And.intro (H3.out.1.set hM ho4) (And.intro (H3.out.2.1.set hM ho4) (And.intro (H3.out.2.2.1.only ho4 hM0) (And.intro hs4' (H3.out.2.2.2.2.trans (ho4.below (by omega) (fun k h => by omega)))))))
    have HS4 := Lib.hid sp4
    clear hs4 hs4' ho4 ck c0 hM sp4 k4
    go_wp2_with (refine wpList_load_mid rfl 49 (.tmp 27) rfl bs 5 rfl [.int .i64 ad, .int .i64 m] _ HS4.out Tryz.underlying49 rfl (by kernel_rfl) ?_)
    go_at_call 44
    refine (hcode B n sv g cap w2.heap.size J.length l ps x ad m _ J w4 H4.out.1 H4.out.2.1 H4.out.2.2.1 H4.out.2.2.2.1 h0 h8 (by omega) h3 HH.out.2.2.2.2.1 hfew HH.out.2.2.2.2.2.1 HH.out.2.2.2.2.2.2 (by omega) hlen).mono ?_
    rintro e w5 ⟨rfl, hs5, ho5⟩
    have l4 := H4.out.2.2.2.2.size
    have H5 := Lib.hid (And.intro hs5 (H4.out.2.2.2.2.trans (ho5.below (by omega) (fun k h => by omega))))
    clear hs5 ho5 ck4 c04
    go_wp2
    go_ret
    exact ⟨_, rfl, H5.out.1.same (fun z => by simp), by omega, H5.out.2⟩
end Go.Proofs.YtkbilipgidcgeaaGreatDoor.Tiny

namespace Go.Proofs.YtkbilipgidcgeaaGreatDoor.Tiny
open Go.RowKit

theorem leN_zero : ∀ n : Nat, leN (List.replicate n 0) = 0
  | 0 => rfl
  | n + 1 => by
    rw [List.replicate_succ]
    show (0 : UInt8).toNat + 256 * leN (List.replicate n 0) = 0
    rw [leN_zero n]
    rfl
theorem wordL_zero : wordL 0 = List.replicate 8 0 := by decide
theorem wordL_length (n : Int) : (wordL n).length = 8 := by simp [wordL]
theorem sgn_word (n : Int) (h1 : -9223372036854775808 ≤ n) (h2 : n ≤ 9223372036854775807) : sgn64 (leN (wordL n)) = n := sgn64_low n h1 h2

/-- The data with a word at their beginning. -/
def datX (X : Int) : List UInt8 := wordL X ++ List.replicate 248 0
theorem datX_length (X : Int) : (datX X).length = 256 := by unfold datX; rw [List.length_append, wordL_length, List.length_replicate]
def dataX (b : Nat) (X : Int) : Part := { newPart 768 256 1 0 0 b with data := datX X }
/-- The example's memory. -/
def tinyP (L : List UInt8) (b1 b2 b3 : Nat) (X : Int) : List Part := [codeP L b1, dataX b2 X, stackP b3]

set_option maxRecDepth 100000 in
theorem dataP_zero (L : List UInt8) (h : L.length = 256) (b : Nat) : dataP L b = dataX b 0 := by
  unfold dataP dataX Part.put newPart
  dsimp only
  congr 1
  rw [List.drop_eq_nil_of_le (by omega)]
  unfold datX putL
  rw [wordL_zero, show (768 - 768 : Int).toNat = 0 from rfl, List.take_zero, List.nil_append, List.length_nil, Nat.add_zero, List.drop_zero, List.nil_append, List.replicate_append_replicate]
  rfl
theorem put_word (b : Nat) (X Y : Int) : (dataX b X).put 768 (wordL Y) = dataX b Y := by
  unfold dataX Part.put newPart
  dsimp only
  congr 1

theorem areas_alike {ns ps : List Part} (h : AreasOk ps) (hl : ns.length = ps.length) (he : ∀ i (hi : i < ns.length) (hi' : i < ps.length), ns[i].at_ = ps[i].at_ ∧ ns[i].size = ps[i].size) : AreasOk ns where
  each := fun q hq => by
    obtain ⟨i, hi, rfl⟩ := List.getElem_of_mem hq
    obtain ⟨e1, e2⟩ := he i hi (by omega)
    rw [e1, e2]
    exact h.each _ (List.getElem_mem _)
  apart := fun i j hi hj hij => by
    obtain ⟨e1, e2⟩ := he i hi (by omega)
    obtain ⟨e3, e4⟩ := he j hj (by omega)
    rw [e1, e2, e3]
    exact h.apart i j (by omega) (by omega) hij
  few := by rw [hl]; exact h.few
theorem areas_tiny (L : List UInt8) (b1 b2 b3 : Nat) (X : Int) : AreasOk (tinyP L b1 b2 b3 X) := by
  have h3 : AreasOk [newPart 512 256 0 0 0 b1, newPart 768 256 1 0 0 b2, newPart 1280 1024 2 0 0 b3] := (areas_two b1 b2).snoc (q := newPart 1280 1024 2 0 0 b3) (by simp only [newPart]; decide) (by
    intro p hp
    simp only [List.mem_cons, List.not_mem_nil, or_false] at hp
    rcases hp with rfl | rfl <;> (simp only [newPart]; decide)) (by simp)
  refine areas_alike h3 rfl (fun i hi hi' => ?_)
  have : i = 0 ∨ i = 1 ∨ i = 2 := by simp at hi'; omega
  rcases this with rfl | rfl | rfl <;> exact ⟨rfl, rfl⟩
theorem last_tiny {L : List UInt8} {X : Int} {b1 b2 b3 : Nat} : LastAt (tinyP L b1 b2 b3 X) 768 1 where
  lt := by simp [tinyP]
  le := by show (768 : Int) ≤ 768; omega
  next := by
    intro j hj h0
    have : j = 2 := by simp [tinyP] at hj; omega
    subst this
    show (768 : Int) < (1280 : Int); omega

theorem hits_ge {ps : List Part} {a n : Int} {e : Int × List UInt8} (h : e ∈ hitsL ps a n) : a ≤ e.1 := by
  unfold hitsL hitL at h
  obtain ⟨p, _, h⟩ := List.mem_flatMap.1 h
  obtain ⟨i, _, rfl⟩ := List.mem_map.1 h
  show a ≤ max a p.at_ + 8 * (i : Int)
  omega
theorem hits_empty (p : Part) (a n : Int) (h : min (a + n) (p.at_ + p.size) ≤ max a p.at_) : hitL p a n = [] := by
  unfold hitL
  rw [show ((min (a + n) (p.at_ + p.size) - max a p.at_) / 8).toNat = 0 by omega]
  rfl

theorem hits_stack (L : List UInt8) (b1 b2 b3 : Nat) (X : Int) : hitsL (tinyP L b1 b2 b3 X) 1280 1024 = hitL (stackP b3) 1280 1024 := by
  unfold hitsL tinyP
  rw [List.flatMap_cons, List.flatMap_cons, List.flatMap_cons, List.flatMap_nil, hits_empty (codeP L b1) _ _ (by show min ((1280 : Int) + 1024) (512 + 256) ≤ max 1280 512; decide), hits_empty _ _ _ (by show min ((1280 : Int) + 1024) (768 + 256) ≤ max 1280 768; decide)]
  simp
theorem hits_data (L : List UInt8) (b1 b2 b3 : Nat) (X : Int) : hitsL (tinyP L b1 b2 b3 X) 768 256 = hitL (dataX b2 X) 768 256 := by
  unfold hitsL tinyP
  rw [List.flatMap_cons, List.flatMap_cons, List.flatMap_cons, List.flatMap_nil, hits_empty _ _ _ (by show min ((768 : Int) + 256) (512 + 256) ≤ max 768 512; decide), hits_empty (stackP b3) _ _ (by show min ((768 : Int) + 256) (1280 + 1024) ≤ max 768 1280; decide)]
  simp
set_option maxRecDepth 100000 in
theorem stack_word {b3 : Nat} {e : Int × List UInt8} (h : e ∈ hitL (stackP b3) 1280 1024) : hitW e = 0 := by
  unfold hitL at h
  obtain ⟨i, _, rfl⟩ := List.mem_map.1 h
  unfold hitW
  show sgn64 ((leN (((List.replicate (1024 : Int).toNat (0 : UInt8)).drop _).take _) : Nat) : Int) = 0
  rw [List.drop_replicate, List.take_replicate, leN_zero]
  rfl
set_option maxRecDepth 100000 in
theorem data_word {b2 : Nat} {X : Int} (h1 : -9223372036854775808 ≤ X) (h2 : X ≤ 9223372036854775807) (z : Int) : (∃ e ∈ hitL (dataX b2 X) 768 256, z = hitW e) ↔ z = 0 ∨ z = X := by
  have hw : ∀ i : Nat, readL (dataX b2 X) (768 + 8 * (i : Int)) 8 = if i = 0 then wordL X else (List.replicate (248 - (8 * i - 8)) 0).take 8 := by
    intro i
    show ((wordL X ++ List.replicate 248 0).drop (768 + 8 * (i : Int) - 768).toNat).take 8 = _
    rw [show (768 + 8 * (i : Int) - 768).toNat = 8 * i by omega]
    split
    · rename_i h
      subst h
      rw [Nat.mul_zero, List.drop_zero, List.take_left' (wordL_length X)]
    · rw [List.drop_append, List.drop_eq_nil_of_le (by rw [wordL_length]; omega), List.nil_append, wordL_length, List.drop_replicate]
  have hr : hitL (dataX b2 X) 768 256 = (List.range 32).map fun (i : Nat) => (768 + 8 * (i : Int), readL (dataX b2 X) (768 + 8 * (i : Int)) 8) := by
    unfold hitL
    rw [show (dataX b2 X).at_ = 768 from rfl, show (dataX b2 X).size = 256 from rfl, show max (768 : Int) 768 = 768 by decide, show ((min ((768 : Int) + 256) (768 + 256) - 768) / 8).toNat = 32 by decide]
  rw [hr]
  constructor
  · rintro ⟨e, he, hz⟩
    obtain ⟨i, _, hi⟩ := List.mem_map.1 he
    rw [hz, ← hi]
    unfold hitW
    simp only [hw i]
    split
    · exact .inr (sgn_word X h1 h2)
    · rw [List.take_replicate, leN_zero]
      exact .inl rfl
  · rintro (rfl | rfl)
    · refine ⟨_, List.mem_map.2 ⟨1, by simp, rfl⟩, ?_⟩
      unfold hitW
      simp only [hw 1]
      rw [if_neg (by omega), List.take_replicate, leN_zero]
      rfl
    · refine ⟨_, List.mem_map.2 ⟨0, by simp, rfl⟩, ?_⟩
      unfold hitW
      simp only [hw 0]
      exact (sgn_word z h1 h2).symm
/-- The words of the process. -/
theorem root_iff (L : List UInt8) (b1 b2 b3 : Nat) (X z : Int) (h1 : -9223372036854775808 ≤ X) (h2 : X ≤ 9223372036854775807) : RootS (tinyP L b1 b2 b3 X) z ↔ z = 0 ∨ z = 2304 ∨ z = 512 ∨ z = X := by
  unfold RootS
  rw [hits_stack, hits_data, data_word h1 h2]
  constructor
  · rintro (h | h | h | ⟨e, he, h⟩ | h | h)
    · exact .inl h
    · exact .inr (.inl h)
    · exact .inr (.inr (.inl h))
    · rw [h, stack_word he]; exact .inl rfl
    · exact .inl h
    · exact .inr (.inr (.inr h))
  · rintro (h | h | h | h)
    · exact .inl h
    · exact .inr (.inl h)
    · exact .inr (.inr (.inl h))
    · exact .inr (.inr (.inr (.inr (.inr h))))


set_option maxRecDepth 100000 in
theorem hits_code (L : List UInt8) (hL : L.length = 256) (b1 b2 b3 : Nat) (X : Int) (k m : Nat) (hk : k + m ≤ 32) :
    hitsL (tinyP L b1 b2 b3 X) (512 + 8 * (k : Int)) (8 * (m : Int)) = (List.range m).map fun (i : Nat) => (512 + 8 * (((k + i : Nat)) : Int), (L.drop (8 * (k + i))).take 8) := by
  unfold hitsL tinyP
  rw [List.flatMap_cons, List.flatMap_cons, List.flatMap_cons, List.flatMap_nil, hits_empty (stackP b3) _ _ (by show min _ ((1280 : Int) + 1024) ≤ max _ 1280; omega), hits_empty (dataX b2 X) _ _ (by show min _ ((768 : Int) + 256) ≤ max _ 768; omega), List.append_nil, List.append_nil, List.append_nil]
  unfold hitL
  rw [show (codeP L b1).at_ = 512 from rfl, show (codeP L b1).size = 256 from rfl, show ((min (512 + 8 * (k : Int) + 8 * (m : Int)) (512 + 256) - max (512 + 8 * (k : Int)) 512) / 8).toNat = m by omega]
  refine List.map_congr_left (fun i _ => ?_)
  have e1 : max (512 + 8 * (k : Int)) 512 + 8 * (i : Int) = 512 + 8 * ((k + i : Nat) : Int) := by omega
  rw [e1]
  congr 1
  have hd : (codeP L b1).data = L := by
    show putL (List.replicate (256 : Int).toNat 0) (512 - 512 : Int).toNat (L.take 256) = L
    rw [List.take_of_length_le (by omega)]
    unfold putL
    rw [show (512 - 512 : Int).toNat = 0 from rfl, List.take_zero, List.nil_append, List.drop_eq_nil_of_le (by rw [List.length_replicate, hL]; decide), List.append_nil]
  show (List.drop (512 + 8 * ((k + i : Nat) : Int) - 512).toNat (codeP L b1).data).take 8 = _
  rw [hd, show (512 + 8 * ((k + i : Nat) : Int) - 512).toNat = 8 * (k + i) by omega]

theorem enc_drop (J : List InsR) (R : List UInt8) : ∀ (k : Nat) (hk : k < J.length), ((J.flatMap encI ++ R).drop (8 * k)).take 8 = encI J[k] := by
  induction J with
  | nil => intro k hk; simp at hk
  | cons x J ih =>
    intro k hk
    rw [List.flatMap_cons, List.append_assoc]
    cases k with
    | zero => rw [Nat.mul_zero, List.drop_zero, List.take_left' (encI_length x)]; rfl
    | succ k =>
      rw [show 8 * (k + 1) = (encI x).length + 8 * k by rw [encI_length]; omega, List.drop_length_add_append]
      exact ih k (by simpa using hk)
end Go.Proofs.YtkbilipgidcgeaaGreatDoor.Tiny
