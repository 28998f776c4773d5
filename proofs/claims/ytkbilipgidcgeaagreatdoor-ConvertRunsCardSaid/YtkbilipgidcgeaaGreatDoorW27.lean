/- tls.Copy, load.Copy, proc: copied, Threads, Out. proc: copied, Threads, Out. -/
import Derived.Deep.MidRow
import Derived.Test.YtkbilipgidcgeaaGreatDoorW26
set_option linter.unusedVariables false
set_option linter.unusedSimpArgs false
namespace Go.Proofs.YtkbilipgidcgeaaGreatDoor
open Go.RowKit Go.ChangeMaps
attribute [local go_sem] ext_cell ext_frozen run_store_func mk_ints0 mk_ints1 mk_ints2 mk_lists0 mk_lists1 mk_lists2 ta_ints run_makeMap
attribute [local irreducible] labCells modC

theorem Only.setCells {S : Nat → Prop} {w : World} (b : Nat) (hg : S b ∨ w.heap.size ≤ b) : ∀ (vs : List Value) (o : Nat) (w1 : World), Only S w w1 → Only S w (w1.setCells b o vs)
  | [], _, _, h => h
  | v :: r, o, w1, h => Only.setCells b hg r (o + 1) _ (h.setCell ⟨b, o, none⟩ v hg)

set_option maxRecDepth 100000 in
set_option maxHeartbeats 1000000 in
theorem tcopy (b s s2 mo th at_ c1 c2 c3 : Nat) (e1 e2 e3 : Array MapEntry) (w : World) (hb : w.heap[b]? = some (.cells (blocksC s mo th at_).toArray 146 (0, 0))) (hm : w.heap[mo]? = some (.map e1 c1)) (ht : w.heap[th]? = some (.map e2 c2)) (ha : w.heap[at_]? = some (.map e3 c3)) :
    Calls Tryz.prog 47 #[.pointer (some ⟨b, 0, none⟩), .pointer (some ⟨s2, 0, none⟩)] w fun e w' => (∃ k, e = .returned (.pointer (some ⟨k, 0, none⟩))) ∧ Below w.heap.size w w' := by
  have lb := lt_of_block hb
  have hb' := hb
  unfold blocksC at hb'
  have HM := Lib.hid (And.intro hm (And.intro ht ha))
  clear hm ht ha hb
  go_enter Tryz.func47, Tryz.ntmps47
  go_upto_region 1 with fail
  refine wp_region_facts [.val (.pointer (some ⟨s2, 0, none⟩)), .val (.pointer (some ⟨b, 0, none⟩)), .val (.pointer (some ⟨b, 0, none⟩)), .val (.pointer (some ⟨b, 1, none⟩)), .val (.map (some mo)), .more (fun v _ => ∃ k, v = .map (some k)) (fun v w' w'' hb h => h), .val (.pointer (some ⟨b, 0, none⟩)), .val (.pointer (some ⟨b, 0, none⟩)), .val (.pointer (some ⟨b, 2, none⟩)), .val (.map (some th)), .more (fun v _ => ∃ k, v = .map (some k)) (fun v w' w'' hb h => h), .val (.pointer (some ⟨b, 0, none⟩)), .val (.pointer (some ⟨b, 0, none⟩)), .val (.pointer (some ⟨b, 3, none⟩)), .val (.map (some at_)), .more (fun v _ => ∃ k, v = .map (some k)) (fun v w' w'' hb h => h)] (by kernel_rfl) (by kernel_rfl) ?_ ?_
  · simp only [stepsAll, List.take, List.length]
    refine ⟨?_, ?_, ?_, ?_, ?_, ?_, ?_, ?_, ?_, ?_, ?_, ?_, ?_, ?_, ?_, ?_, ?_⟩
    all_goals first | trivial | (intro a wr hb hf hd)
    all_goals have hf0 : a.tmps[(0 : Nat)]?.getD undef = .pointer (some ⟨b, 0, none⟩) := (hf 0 (by decide +kernel)).trans rfl
    all_goals have hf1 : a.tmps[(1 : Nat)]?.getD undef = .pointer (some ⟨s2, 0, none⟩) := (hf 1 (by decide +kernel)).trans rfl
    · exact grow_tmp _ rfl ⟨hf1, fun h => by cases h⟩
    · exact grow_tmp _ rfl ⟨hf0, fun h => by cases h⟩
    · have h6 : a.tmps[(6 : Nat)]?.getD undef = .pointer (some ⟨b, 0, none⟩) := hd 1 (by simp) (by kernel_rfl)
      exact grow_value (v := .pointer (some ⟨b, 0, none⟩)) (by simp [execOp, h6, go_sem]) (Below.refl _ _) ⟨rfl, fun h => by cases h⟩
    · have h7 : a.tmps[(7 : Nat)]?.getD undef = .pointer (some ⟨b, 0, none⟩) := hd 2 (by simp) (by kernel_rfl)
      exact grow_value (v := .pointer (some ⟨b, 1, none⟩)) (by simp [execOp, h7, go_sem]) (Below.refl _ _) ⟨rfl, fun h => by cases h⟩
    · have h8 : a.tmps[(8 : Nat)]?.getD undef = .pointer (some ⟨b, 1, none⟩) := hd 3 (by simp) (by kernel_rfl)
      have hc := cell_l ((hb.block _ (lt_of_block hb')).trans hb') 1 (rfl)
      exact grow_value (v := .map (some mo)) (by simp [execOp, h8, hc, go_sem]) (Below.refl _ _) ⟨rfl, fun h => by cases h⟩
    · have h9 : a.tmps[(9 : Nat)]?.getD undef = .map (some mo) := hd 4 (by simp) (by kernel_rfl)
      refine grow_call (f := 96) (args := #[.map (some mo)]) (by simp [execOp, h9, go_sem]) ?_
      refine (mclone_mods mo _ _ _ ((hb.block _ (lt_of_block HM.out.1)).trans HM.out.1)).mono ?_
      rintro e w3 ⟨rfl, hb3⟩
      exact ⟨_, rfl, hb3, ⟨_, rfl⟩, fun h => by cases h⟩
    · exact grow_tmp _ rfl ⟨hf0, fun h => by cases h⟩
    · have h11 : a.tmps[(11 : Nat)]?.getD undef = .pointer (some ⟨b, 0, none⟩) := hd 6 (by simp) (by kernel_rfl)
      exact grow_value (v := .pointer (some ⟨b, 0, none⟩)) (by simp [execOp, h11, go_sem]) (Below.refl _ _) ⟨rfl, fun h => by cases h⟩
    · have h12 : a.tmps[(12 : Nat)]?.getD undef = .pointer (some ⟨b, 0, none⟩) := hd 7 (by simp) (by kernel_rfl)
      exact grow_value (v := .pointer (some ⟨b, 2, none⟩)) (by simp [execOp, h12, go_sem]) (Below.refl _ _) ⟨rfl, fun h => by cases h⟩
    · have h13 : a.tmps[(13 : Nat)]?.getD undef = .pointer (some ⟨b, 2, none⟩) := hd 8 (by simp) (by kernel_rfl)
      have hc := cell_l ((hb.block _ (lt_of_block hb')).trans hb') 2 (rfl)
      exact grow_value (v := .map (some th)) (by simp [execOp, h13, hc, go_sem]) (Below.refl _ _) ⟨rfl, fun h => by cases h⟩
    · have h14 : a.tmps[(14 : Nat)]?.getD undef = .map (some th) := hd 9 (by simp) (by kernel_rfl)
      refine grow_call (f := 97) (args := #[.map (some th)]) (by simp [execOp, h14, go_sem]) ?_
      refine (mclone_thrs th _ _ _ ((hb.block _ (lt_of_block HM.out.2.1)).trans HM.out.2.1)).mono ?_
      rintro e w3 ⟨rfl, hb3⟩
      exact ⟨_, rfl, hb3, ⟨_, rfl⟩, fun h => by cases h⟩
    · exact grow_tmp _ rfl ⟨hf0, fun h => by cases h⟩
    · have h16 : a.tmps[(16 : Nat)]?.getD undef = .pointer (some ⟨b, 0, none⟩) := hd 11 (by simp) (by kernel_rfl)
      exact grow_value (v := .pointer (some ⟨b, 0, none⟩)) (by simp [execOp, h16, go_sem]) (Below.refl _ _) ⟨rfl, fun h => by cases h⟩
    · have h17 : a.tmps[(17 : Nat)]?.getD undef = .pointer (some ⟨b, 0, none⟩) := hd 12 (by simp) (by kernel_rfl)
      exact grow_value (v := .pointer (some ⟨b, 3, none⟩)) (by simp [execOp, h17, go_sem]) (Below.refl _ _) ⟨rfl, fun h => by cases h⟩
    · have h18 : a.tmps[(18 : Nat)]?.getD undef = .pointer (some ⟨b, 3, none⟩) := hd 13 (by simp) (by kernel_rfl)
      have hc := cell_l ((hb.block _ (lt_of_block hb')).trans hb') 3 (rfl)
      exact grow_value (v := .map (some at_)) (by simp [execOp, h18, hc, go_sem]) (Below.refl _ _) ⟨rfl, fun h => by cases h⟩
    · have h19 : a.tmps[(19 : Nat)]?.getD undef = .map (some at_) := hd 14 (by simp) (by kernel_rfl)
      refine grow_call (f := 98) (args := #[.map (some at_)]) (by simp [execOp, h19, go_sem]) ?_
      refine (mclone_pairs at_ _ _ _ ((hb.block _ (lt_of_block HM.out.2.2)).trans HM.out.2.2)).mono ?_
      rintro e w3 ⟨rfl, hb3⟩
      exact ⟨_, rfl, hb3, ⟨_, rfl⟩, fun h => by cases h⟩
  · intro fv w2 hb2 hs hn hne
    have g5 : fv 5 = .pointer (some ⟨s2, 0, none⟩) := hs 0 (by simp)
    have g6 : fv 6 = .pointer (some ⟨b, 0, none⟩) := hs 1 (by simp)
    have g7 : fv 7 = .pointer (some ⟨b, 0, none⟩) := hs 2 (by simp)
    have g8 : fv 8 = .pointer (some ⟨b, 1, none⟩) := hs 3 (by simp)
    have g9 : fv 9 = .map (some mo) := hs 4 (by simp)
    have g11 : fv 11 = .pointer (some ⟨b, 0, none⟩) := hs 6 (by simp)
    have g12 : fv 12 = .pointer (some ⟨b, 0, none⟩) := hs 7 (by simp)
    have g13 : fv 13 = .pointer (some ⟨b, 2, none⟩) := hs 8 (by simp)
    have g14 : fv 14 = .map (some th) := hs 9 (by simp)
    have g16 : fv 16 = .pointer (some ⟨b, 0, none⟩) := hs 11 (by simp)
    have g17 : fv 17 = .pointer (some ⟨b, 0, none⟩) := hs 12 (by simp)
    have g18 : fv 18 = .pointer (some ⟨b, 3, none⟩) := hs 13 (by simp)
    have g19 : fv 19 = .map (some at_) := hs 14 (by simp)
    obtain ⟨k1, g10⟩ : ∃ k, fv 10 = .map (some k) := hs 5 (by simp)
    obtain ⟨k2, g15⟩ : ∃ k, fv 15 = .map (some k) := hs 10 (by simp)
    obtain ⟨k3, g20⟩ : ∃ k, fv 20 = .map (some k) := hs 15 (by simp)
    rw [show (List.range (List.length _)).map (dstOf _) = [5, 6, 7, 8, 9, 10, 11, 12, 13, 14, 15, 16, 17, 18, 19, 20] from by kernel_rfl]
    simp only [actOf, List.foldl, Act.put, List.drop, List.length, g5, g6, g7, g8, g9, g11, g12, g13, g14, g16, g17, g18, g19, g10, g15, g20, List.setIfInBounds_toArray, List.set_cons_zero, List.set_cons_succ]
    clear hs hn hne g5 g6 g7 g8 g9 g11 g12 g13 g14 g16 g17 g18 g19 g10 g15 g20
    have H2 := Lib.hid hb2
    clear hb2
    go_wp2
    go_ret
    exact ⟨⟨_, rfl⟩, H2.out.alloc H2.out.size _⟩

set_option maxRecDepth 100000 in
set_option maxHeartbeats 1000000 in
theorem lcopy (l s b st gm cm gq cq s2 k2 c1 : Nat) (e1 : Array MapEntry) (B : ByteArray) (w : World) (hl : w.heap[l]? = some (.cells (loaderC s b st (.slice (some ⟨gm, 0, none⟩) 1 cm) (.slice (some ⟨gq, 0, none⟩) 1 cq)).toArray 149 (0, 0)))
    (hm : w.ownsRow 0 91 32 (.slice (some ⟨gm, 0, none⟩) 1 cm) 1 (modC B 512 1)) (hq : w.ownsRow 0 3 1 (.slice (some ⟨gq, 0, none⟩) 1 cq) 1 [.int .i64 0]) (hs : w.heap[st]? = some (.map e1 c1)) :
    Calls Tryz.prog 48 #[.pointer (some ⟨l, 0, none⟩), .pointer (some ⟨s2, 0, none⟩), .pointer (some ⟨k2, 0, none⟩)] w fun e w' => ∃ l2 st2 gm2 cm2 gq2 cq2, e = .returned (.pointer (some ⟨l2, 0, none⟩)) ∧ Below w.heap.size w w' ∧ w.heap.size ≤ l2 ∧
      w'.heap[l2]? = some (.cells (loaderC s2 k2 st2 (.slice (some ⟨gm2, 0, none⟩) 1 cm2) (.slice (some ⟨gq2, 0, none⟩) 1 cq2)).toArray 149 (0, 0)) ∧ w'.ownsRow w.heap.size 91 32 (.slice (some ⟨gm2, 0, none⟩) 1 cm2) 1 (modC B 512 1) := by
  have ll := lt_of_block hl
  have hl' := hl
  unfold loaderC at hl'
  have HM := Lib.hid (And.intro hm (And.intro hq hs))
  clear hl hm hq hs
  go_enter Tryz.func48, Tryz.ntmps48
  go_upto_region 1 with fail
  refine wp_region_facts [.val (.pointer (some ⟨s2, 0, none⟩)), .val (.pointer (some ⟨k2, 0, none⟩)), .val (.pointer (some ⟨l, 0, none⟩)), .val (.pointer (some ⟨l, 0, none⟩)), .val (.pointer (some ⟨l, 2, none⟩)), .val (.map (some st)), .more (fun v _ => ∃ k, v = .map (some k)) (fun v w' w'' hb h => h), .val (.pointer (some ⟨l, 0, none⟩)), .val (.pointer (some ⟨l, 0, none⟩)), .val (.pointer (some ⟨l, 3, none⟩)), .val (.bool false), .val (.pointer (some ⟨l, 0, none⟩)), .val (.pointer (some ⟨l, 0, none⟩)), .val (.pointer (some ⟨l, 4, none⟩)), .val (.slice (some ⟨gm, 0, none⟩) 1 cm), .more (fun v w' => ∃ g c, v = .slice (some ⟨g, 0, none⟩) 1 c ∧ w'.ownsRow w.heap.size 91 32 (.slice (some ⟨g, 0, none⟩) 1 c) 1 (modC B 512 1)) (fun v w' w'' hb h => by obtain ⟨g, cap, h1, h3⟩ := h; exact ⟨g, cap, h1, ownsRow_below' h3 hb⟩), .val (.pointer (some ⟨l, 0, none⟩)), .val (.pointer (some ⟨l, 0, none⟩)), .val (.pointer (some ⟨l, 5, none⟩)), .val (.slice (some ⟨gq, 0, none⟩) 1 cq), .more (fun v _ => ∃ g c, v = .slice (some ⟨g, 0, none⟩) 1 c) (fun v w' w'' hb h => h)] (by kernel_rfl) (by kernel_rfl) ?_ ?_
  · simp only [stepsAll, List.take, List.length]
    refine ⟨?_, ?_, ?_, ?_, ?_, ?_, ?_, ?_, ?_, ?_, ?_, ?_, ?_, ?_, ?_, ?_, ?_, ?_, ?_, ?_, ?_, ?_⟩
    all_goals first | trivial | (intro a wr hb hf hd)
    all_goals have hf0 : a.tmps[(0 : Nat)]?.getD undef = .pointer (some ⟨l, 0, none⟩) := (hf 0 (by decide +kernel)).trans rfl
    all_goals have hf1 : a.tmps[(1 : Nat)]?.getD undef = .pointer (some ⟨s2, 0, none⟩) := (hf 1 (by decide +kernel)).trans rfl
    all_goals have hf2 : a.tmps[(2 : Nat)]?.getD undef = .pointer (some ⟨k2, 0, none⟩) := (hf 2 (by decide +kernel)).trans rfl
    · exact grow_tmp _ rfl ⟨hf1, fun h => by cases h⟩
    · exact grow_tmp _ rfl ⟨hf2, fun h => by cases h⟩
    · exact grow_tmp _ rfl ⟨hf0, fun h => by cases h⟩
    · have h9 : a.tmps[(9 : Nat)]?.getD undef = .pointer (some ⟨l, 0, none⟩) := hd 2 (by simp) (by kernel_rfl)
      exact grow_value (v := .pointer (some ⟨l, 0, none⟩)) (by simp [execOp, h9, go_sem]) (Below.refl _ _) ⟨rfl, fun h => by cases h⟩
    · have h10 : a.tmps[(10 : Nat)]?.getD undef = .pointer (some ⟨l, 0, none⟩) := hd 3 (by simp) (by kernel_rfl)
      exact grow_value (v := .pointer (some ⟨l, 2, none⟩)) (by simp [execOp, h10, go_sem]) (Below.refl _ _) ⟨rfl, fun h => by cases h⟩
    · have h11 : a.tmps[(11 : Nat)]?.getD undef = .pointer (some ⟨l, 2, none⟩) := hd 4 (by simp) (by kernel_rfl)
      have hc := cell_l ((hb.block _ (lt_of_block hl')).trans hl') 2 (rfl)
      exact grow_value (v := .map (some st)) (by simp [execOp, h11, hc, go_sem]) (Below.refl _ _) ⟨rfl, fun h => by cases h⟩
    · have h12 : a.tmps[(12 : Nat)]?.getD undef = .map (some st) := hd 5 (by simp) (by kernel_rfl)
      refine grow_call (f := 99) (args := #[.map (some st)]) (by simp [execOp, h12, go_sem]) ?_
      refine (mclone_store st _ _ _ ((hb.block _ (lt_of_block HM.out.2.2)).trans HM.out.2.2)).mono ?_
      rintro e w3 ⟨rfl, hb3⟩
      exact ⟨_, rfl, hb3, ⟨_, rfl⟩, fun h => by cases h⟩
    · exact grow_tmp _ rfl ⟨hf0, fun h => by cases h⟩
    · have h14 : a.tmps[(14 : Nat)]?.getD undef = .pointer (some ⟨l, 0, none⟩) := hd 7 (by simp) (by kernel_rfl)
      exact grow_value (v := .pointer (some ⟨l, 0, none⟩)) (by simp [execOp, h14, go_sem]) (Below.refl _ _) ⟨rfl, fun h => by cases h⟩
    · have h15 : a.tmps[(15 : Nat)]?.getD undef = .pointer (some ⟨l, 0, none⟩) := hd 8 (by simp) (by kernel_rfl)
      exact grow_value (v := .pointer (some ⟨l, 3, none⟩)) (by simp [execOp, h15, go_sem]) (Below.refl _ _) ⟨rfl, fun h => by cases h⟩
    · have h16 : a.tmps[(16 : Nat)]?.getD undef = .pointer (some ⟨l, 3, none⟩) := hd 9 (by simp) (by kernel_rfl)
      have hc := cell_l ((hb.block _ (lt_of_block hl')).trans hl') 3 (rfl)
      exact grow_value (v := .bool false) (by simp [execOp, h16, hc, go_sem]) (Below.refl _ _) ⟨rfl, fun h => by cases h⟩
    · exact grow_tmp _ rfl ⟨hf0, fun h => by cases h⟩
    · have h18 : a.tmps[(18 : Nat)]?.getD undef = .pointer (some ⟨l, 0, none⟩) := hd 11 (by simp) (by kernel_rfl)
      exact grow_value (v := .pointer (some ⟨l, 0, none⟩)) (by simp [execOp, h18, go_sem]) (Below.refl _ _) ⟨rfl, fun h => by cases h⟩
    · have h19 : a.tmps[(19 : Nat)]?.getD undef = .pointer (some ⟨l, 0, none⟩) := hd 12 (by simp) (by kernel_rfl)
      exact grow_value (v := .pointer (some ⟨l, 4, none⟩)) (by simp [execOp, h19, go_sem]) (Below.refl _ _) ⟨rfl, fun h => by cases h⟩
    · have h20 : a.tmps[(20 : Nat)]?.getD undef = .pointer (some ⟨l, 4, none⟩) := hd 13 (by simp) (by kernel_rfl)
      have hc := cell_l ((hb.block _ (lt_of_block hl')).trans hl') 4 (rfl)
      exact grow_value (v := .slice (some ⟨gm, 0, none⟩) 1 cm) (by simp [execOp, h20, hc, go_sem]) (Below.refl _ _) ⟨rfl, fun h => by cases h⟩
    · have h21 : a.tmps[(21 : Nat)]?.getD undef = .slice (some ⟨gm, 0, none⟩) 1 cm := hd 14 (by simp) (by kernel_rfl)
      have hmr := ownsRow_below' HM.out.1 hb
      refine grow_call (f := 71) (args := #[.slice (some ⟨gm, 0, none⟩) 1 cm]) (by simp [execOp, h21, go_sem]) ?_
      refine (clone_mods gm 1 cm (modC B 512 1) _ (fun j u hj => (row_cell hmr j hj).1) (modC_len B 512 1) (modC_one B 512 1) (by omega) (by omega) (ownsRow_lt hmr).2.1).mono ?_
      rintro e w3 ⟨hb3, g, c, rfl, hown3⟩
      exact ⟨_, rfl, hb3, ⟨g, c, rfl, ownsRow_lower hown3 hb.size⟩, fun h => by cases h⟩
    · exact grow_tmp _ rfl ⟨hf0, fun h => by cases h⟩
    · have h23 : a.tmps[(23 : Nat)]?.getD undef = .pointer (some ⟨l, 0, none⟩) := hd 16 (by simp) (by kernel_rfl)
      exact grow_value (v := .pointer (some ⟨l, 0, none⟩)) (by simp [execOp, h23, go_sem]) (Below.refl _ _) ⟨rfl, fun h => by cases h⟩
    · have h24 : a.tmps[(24 : Nat)]?.getD undef = .pointer (some ⟨l, 0, none⟩) := hd 17 (by simp) (by kernel_rfl)
      exact grow_value (v := .pointer (some ⟨l, 5, none⟩)) (by simp [execOp, h24, go_sem]) (Below.refl _ _) ⟨rfl, fun h => by cases h⟩
    · have h25 : a.tmps[(25 : Nat)]?.getD undef = .pointer (some ⟨l, 5, none⟩) := hd 18 (by simp) (by kernel_rfl)
      have hc := cell_l ((hb.block _ (lt_of_block hl')).trans hl') 5 (rfl)
      exact grow_value (v := .slice (some ⟨gq, 0, none⟩) 1 cq) (by simp [execOp, h25, hc, go_sem]) (Below.refl _ _) ⟨rfl, fun h => by cases h⟩
    · have h26 : a.tmps[(26 : Nat)]?.getD undef = .slice (some ⟨gq, 0, none⟩) 1 cq := hd 19 (by simp) (by kernel_rfl)
      have hmr := ownsRow_below' HM.out.2.1 hb
      refine grow_call (f := 100) (args := #[.slice (some ⟨gq, 0, none⟩) 1 cq]) (by simp [execOp, h26, go_sem]) ?_
      refine (clone_ints gq 1 cq [.int .i64 0] _ (fun j u hj => (row_cell hmr j hj).1) rfl (by simp [Value.oneCell']) (by omega) (by omega) (ownsRow_lt hmr).2.1).mono ?_
      rintro e w3 ⟨hb3, g, c, rfl, hown3⟩
      exact ⟨_, rfl, hb3, ⟨g, c, rfl⟩, fun h => by cases h⟩
  · intro fv w2 hb2 hs hn hne
    have g7 : fv 7 = .pointer (some ⟨s2, 0, none⟩) := hs 0 (by simp)
    have g8 : fv 8 = .pointer (some ⟨k2, 0, none⟩) := hs 1 (by simp)
    have g9 : fv 9 = .pointer (some ⟨l, 0, none⟩) := hs 2 (by simp)
    have g10 : fv 10 = .pointer (some ⟨l, 0, none⟩) := hs 3 (by simp)
    have g11 : fv 11 = .pointer (some ⟨l, 2, none⟩) := hs 4 (by simp)
    have g12 : fv 12 = .map (some st) := hs 5 (by simp)
    have g14 : fv 14 = .pointer (some ⟨l, 0, none⟩) := hs 7 (by simp)
    have g15 : fv 15 = .pointer (some ⟨l, 0, none⟩) := hs 8 (by simp)
    have g16 : fv 16 = .pointer (some ⟨l, 3, none⟩) := hs 9 (by simp)
    have g17 : fv 17 = .bool false := hs 10 (by simp)
    have g18 : fv 18 = .pointer (some ⟨l, 0, none⟩) := hs 11 (by simp)
    have g19 : fv 19 = .pointer (some ⟨l, 0, none⟩) := hs 12 (by simp)
    have g20 : fv 20 = .pointer (some ⟨l, 4, none⟩) := hs 13 (by simp)
    have g21 : fv 21 = .slice (some ⟨gm, 0, none⟩) 1 cm := hs 14 (by simp)
    have g23 : fv 23 = .pointer (some ⟨l, 0, none⟩) := hs 16 (by simp)
    have g24 : fv 24 = .pointer (some ⟨l, 0, none⟩) := hs 17 (by simp)
    have g25 : fv 25 = .pointer (some ⟨l, 5, none⟩) := hs 18 (by simp)
    have g26 : fv 26 = .slice (some ⟨gq, 0, none⟩) 1 cq := hs 19 (by simp)
    obtain ⟨st2, g13⟩ : ∃ k, fv 13 = .map (some k) := hs 6 (by simp)
    obtain ⟨gm2, cm2, g22, hown⟩ : ∃ g c, fv 22 = .slice (some ⟨g, 0, none⟩) 1 c ∧ w2.ownsRow w.heap.size 91 32 (.slice (some ⟨g, 0, none⟩) 1 c) 1 (modC B 512 1) := hs 15 (by simp)
    obtain ⟨gq2, cq2, g27⟩ : ∃ g c, fv 27 = .slice (some ⟨g, 0, none⟩) 1 c := hs 20 (by simp)
    rw [show (List.range (List.length _)).map (dstOf _) = [7, 8, 9, 10, 11, 12, 13, 14, 15, 16, 17, 18, 19, 20, 21, 22, 23, 24, 25, 26, 27] from by kernel_rfl]
    simp only [actOf, List.foldl, Act.put, List.drop, List.length, g7, g8, g9, g10, g11, g12, g14, g15, g16, g17, g18, g19, g20, g21, g23, g24, g25, g26, g13, g22, g27, List.setIfInBounds_toArray, List.set_cons_zero, List.set_cons_succ]
    clear hs hn hne g7 g8 g9 g10 g11 g12 g14 g15 g16 g17 g18 g19 g20 g21 g23 g24 g25 g26 g13 g22 g27
    have H2 := Lib.hid (And.intro hb2 hown)
    clear hb2 hown
    go_wp2
    go_ret
    exact ⟨_, st2, gm2, cm2, gq2, cq2, rfl, H2.out.1.alloc H2.out.1.size _, H2.out.1.size, heap_alloc_new _ _, ownsRow_below' H2.out.2 ((Below.refl _ _).alloc (Nat.le_refl _) _)⟩
end Go.Proofs.YtkbilipgidcgeaaGreatDoor

namespace Go.Proofs.YtkbilipgidcgeaaGreatDoor
open Go.RowKit Go.ChangeMaps
attribute [local go_sem] ext_cell ext_frozen run_store_func mk_ints0 mk_ints1 mk_ints2 mk_lists0 mk_lists1 mk_lists2 ta_ints run_makeMap
attribute [local irreducible] labCells modC

theorem thread_all (x : Int) (g c : Nat) : (threadC x (.slice (some ⟨g, 0, none⟩) 1 c)).toArray.all (·.oneCell') = true := by simp [threadC, Value.oneCell']

set_option maxRecDepth 100000 in
set_option maxHeartbeats 1000000 in
theorem pcopied (x : Int) (gc cc : Nat) (w : World) (hc : w.ownsRow 0 3 1 (.slice (some ⟨gc, 0, none⟩) 1 cc) 1 [.int .i64 512]) :
    Calls Tryz.prog 102 #[.agg (threadC x (.slice (some ⟨gc, 0, none⟩) 1 cc)).toArray] w fun e w' => (∃ g c, e = .returned (.agg (threadC x (.slice (some ⟨g, 0, none⟩) 1 c)).toArray)) ∧ Below w.heap.size w w' := by
  have HC := Lib.hid hc
  clear hc
  go_enter Tryz.func102, Tryz.ntmps102
  go_upto_region 1 with fail
  refine name_world fun V hV => ?_
  have vB : Below w.heap.size w V := by rw [← hV]; go_grown
  have vx : V.heap[w.heap.size]? = some (.cells (threadC x (.slice (some ⟨gc, 0, none⟩) 1 cc)).toArray 100 (0, 0)) := by rw [← hV]; (repeat (first | exact block_at (by first | rfl | (simp; done) | (simp; omega)) | refine block_old ?_))
  have vz : ∃ z : Array Value, z.size = 23 ∧ V.heap[w.heap.size + 1]? = some (.cells z 100 (0, 0)) := by rw [← hV]; exact ⟨_, rfl, heap_alloc2_new _ _ _⟩
  obtain ⟨z, hz, vz⟩ := vz
  clear hV
  have HV := Lib.hid (And.intro vB vz)
  have vc := ownsRow_below' HC.out vB
  clear vB vz
  have vx' := vx
  unfold threadC at vx'
  refine wp_region_facts [.val (.pointer (some ⟨w.heap.size, 21, none⟩)), .val (.slice (some ⟨gc, 0, none⟩) 1 cc), .more (fun v _ => ∃ g c, v = .slice (some ⟨g, 0, none⟩) 1 c) (fun v w' w'' hb h => h), .val (.pointer (some ⟨w.heap.size, 22, none⟩)), .val (.slice none 0 0), .val (.slice none 0 0), .val (.pointer (some ⟨w.heap.size, 21, none⟩))] (by kernel_rfl) (by kernel_rfl) ?_ ?_
  · simp only [stepsAll, List.take, List.length]
    refine ⟨?_, ?_, ?_, ?_, ?_, ?_, ?_, ?_⟩
    all_goals first | trivial | (intro a wr hb hf hd)
    all_goals have hf1 : a.tmps[(1 : Nat)]?.getD undef = .pointer (some ⟨w.heap.size, 0, none⟩) := (hf 1 (by decide +kernel)).trans rfl
    · exact grow_value (v := .pointer (some ⟨w.heap.size, 21, none⟩)) (by simp [execOp, hf1, go_sem]) (Below.refl _ _) ⟨rfl, fun h => by cases h⟩
    · have h3 : a.tmps[(3 : Nat)]?.getD undef = .pointer (some ⟨w.heap.size, 21, none⟩) := hd 0 (by simp) (by kernel_rfl)
      have hc := cell_l ((hb.block _ (lt_of_block vx')).trans vx') 21 (rfl)
      exact grow_value (v := .slice (some ⟨gc, 0, none⟩) 1 cc) (by simp [execOp, h3, hc, go_sem]) (Below.refl _ _) ⟨rfl, fun h => by cases h⟩
    · have h4 : a.tmps[(4 : Nat)]?.getD undef = .slice (some ⟨gc, 0, none⟩) 1 cc := hd 1 (by simp) (by kernel_rfl)
      have hmr := ownsRow_below' vc hb
      refine grow_call (f := 100) (args := #[.slice (some ⟨gc, 0, none⟩) 1 cc]) (by simp [execOp, h4, go_sem]) ?_
      refine (clone_ints gc 1 cc [.int .i64 512] _ (fun j u hj => (row_cell hmr j hj).1) rfl (by simp [Value.oneCell']) (by omega) (by omega) (ownsRow_lt hmr).2.1).mono ?_
      rintro e w3 ⟨hb3, g, c, rfl, hown3⟩
      exact ⟨_, rfl, hb3, ⟨g, c, rfl⟩, fun h => by cases h⟩
    · exact grow_value (v := .pointer (some ⟨w.heap.size, 22, none⟩)) (by simp [execOp, hf1, go_sem]) (Below.refl _ _) ⟨rfl, fun h => by cases h⟩
    · have h6 : a.tmps[(6 : Nat)]?.getD undef = .pointer (some ⟨w.heap.size, 22, none⟩) := hd 3 (by simp) (by kernel_rfl)
      have hc := cell_l ((hb.block _ (lt_of_block vx')).trans vx') 22 (rfl)
      exact grow_value (v := .slice none 0 0) (by simp [execOp, h6, hc, go_sem]) (Below.refl _ _) ⟨rfl, fun h => by cases h⟩
    · have h7 : a.tmps[(7 : Nat)]?.getD undef = .slice none 0 0 := hd 4 (by simp) (by kernel_rfl)
      refine grow_call (f := 185) (args := #[.slice none 0 0]) (by simp [execOp, h7, go_sem]) ?_
      refine (clone_saved_nil _).mono ?_
      rintro e w3 ⟨rfl, rfl⟩
      exact ⟨_, rfl, Below.refl _ _, rfl, fun h => by cases h⟩
    · exact grow_value (v := .pointer (some ⟨w.heap.size, 21, none⟩)) (by simp [execOp, hf1, go_sem]) (Below.refl _ _) ⟨rfl, fun h => by cases h⟩
  · intro fv w2 hb2 hs hn hne
    have g3 : fv 3 = .pointer (some ⟨w.heap.size, 21, none⟩) := hs 0 (by simp)
    have g4 : fv 4 = .slice (some ⟨gc, 0, none⟩) 1 cc := hs 1 (by simp)
    have g6 : fv 6 = .pointer (some ⟨w.heap.size, 22, none⟩) := hs 3 (by simp)
    have g7 : fv 7 = .slice none 0 0 := hs 4 (by simp)
    have g8 : fv 8 = .slice none 0 0 := hs 5 (by simp)
    have g9 : fv 9 = .pointer (some ⟨w.heap.size, 21, none⟩) := hs 6 (by simp)
    obtain ⟨g, c, g5⟩ : ∃ g c, fv 5 = .slice (some ⟨g, 0, none⟩) 1 c := hs 2 (by simp)
    rw [show (List.range (List.length _)).map (dstOf _) = [3, 4, 5, 6, 7, 8, 9] from by kernel_rfl]
    simp only [actOf, List.foldl, Act.put, List.drop, List.length, g3, g4, g6, g7, g8, g9, g5, List.setIfInBounds_toArray, List.set_cons_zero, List.set_cons_succ]
    clear hs hn hne g3 g4 g6 g7 g8 g9 g5
    have xx := (hb2.block _ (lt_of_block vx)).trans vx
    have xz := (hb2.block _ (lt_of_block HV.out.2)).trans HV.out.2
    have xx' := xx
    unfold threadC at xx'
    have c21 := cell_l xx' 21 rfl; have f21 := free_in xx' 21; have c22 := cell_l xx' 22 rfl; have f22 := free_in xx' 22
    have HX := Lib.hid (And.intro hb2 (And.intro xx xz))
    have lx := lt_of_block xx
    clear hb2 xx xz xx' vx vx' vc
    go_upto_region 2 with fail
    refine name_world fun X hX => ?_
    have xo : Only (· = w.heap.size) w2 X := by rw [← hX]; exact ((Only.refl (· = w.heap.size) w2).setCell ⟨w.heap.size, 21, none⟩ _ (.inl rfl)).setCell ⟨w.heap.size, 22, none⟩ _ (.inl rfl)
    have yx : X.heap[w.heap.size]? = some (.cells (threadC x (.slice (some ⟨g, 0, none⟩) 1 c)).toArray 100 (0, 0)) := by rw [← hX]; exact block_set (block_set HX.out.2.1 21 _) 22 _
    have yz := xo.kept HX.out.2.2 (by omega)
    have HY := Lib.hid (And.intro xo (And.intro yx yz))
    clear hX xo yx yz c21 f21 c22 f22
    go_wp2_with (first
      | (refine wpList_load_row rfl 100 (.tmp 1) rfl w.heap.size rfl 100 (threadC x (.slice (some ⟨g, 0, none⟩) 1 c)).toArray (0, 0) _ HY.out.2.1 Tryz.underlying100 rfl (by kernel_rfl) ?_)
      | ((with_reducible refine at_store_law ?_); refine wpList_store_row rfl 100 _ _ rfl _ _ rfl rfl _ _ HY.out.2.2 (by kernel_rfl) (by rw [hz]; rfl) (thread_all x g c) ?_))
    refine bodyPost_ret (results_cell1 rfl _ _ (w.heap.size + 1) 100 (threadC x (.slice (some ⟨g, 0, none⟩) 1 c)).toArray (0, 0) _ rfl (setRow_heap X (w.heap.size + 1) z _ _ _ HY.out.2.2) Tryz.underlying100 rfl (by kernel_rfl)) rfl ⟨⟨g, c, rfl⟩, ?_⟩
    have hB := HV.out.1.trans (HX.out.1.mono HV.out.1.size)
    exact (((Only.of_below_le hB (fun k _ h => h) : Only (fun b => w.heap.size ≤ b) w w2).then HY.out.1 (by intro k _ h; omega)).setRow (w.heap.size + 1) _ (.inl (by show w.heap.size ≤ w.heap.size + 1; omega))).below (Nat.le_refl _) (fun k h => h)

theorem thread_size (x : Int) (v : Value) : (Tryz.prog.info? 100).map (·.size) = some (threadC x v).toArray.size := by kernel_rfl
theorem thread_len (x : Int) (v : Value) : (Tryz.prog.info? 100).map (·.size) = some (threadC x v).length := by kernel_rfl
theorem thread_len' (x : Int) (v : Value) : (threadC x v).length = 23 := rfl
theorem thread_arr (x : Int) (v : Value) : (threadC x v).toArray.size = 23 := rfl
theorem thread_one (x : Int) (g c : Nat) : ∀ u ∈ threadC x (.slice (some ⟨g, 0, none⟩) 1 c), u.oneCell' = true := by simp [threadC, Value.oneCell']
attribute [local irreducible] threadC

set_option maxRecDepth 100000 in
set_option maxHeartbeats 1000000 in
theorem pthreads (p s b l gt ct gc cc : Nat) (x : Int) (w : World) (hp : w.heap[p]? = some (.cells (procC s b l (.slice (some ⟨gt, 0, none⟩) 1 ct)).toArray 81 (0, 0)))
    (ht : w.ownsRow 0 100 23 (.slice (some ⟨gt, 0, none⟩) 1 ct) 1 (threadC x (.slice (some ⟨gc, 0, none⟩) 1 cc))) (hc : w.ownsRow 0 3 1 (.slice (some ⟨gc, 0, none⟩) 1 cc) 1 [.int .i64 512]) :
    Calls Tryz.prog 49 #[.pointer (some ⟨p, 0, none⟩)] w fun e w' => (∃ g c, e = .returned (.slice (some ⟨g, 0, none⟩) 1 c)) ∧ Below w.heap.size w w' := by
  have lp := lt_of_block hp
  unfold procC at hp
  have c3 := cell_l hp 3 rfl
  have HH := Lib.hid (And.intro ht hc)
  clear hp ht hc
  go_enter Tryz.func49, Tryz.ntmps49
  go_wp2_with (first
    | (go_at_call 101; refine (clone_threads gt 1 ct (threadC x (.slice (some ⟨gc, 0, none⟩) 1 cc)) _ (fun j u hj => (row_cell HH.out.1 j hj).1) (thread_len' _ _) (thread_one x gc cc) (by omega) (by omega) (ownsRow_lt HH.out.1).2.1).mono ?_
       rintro e w1 ⟨hb1, g, c, rfl, hown1⟩
       have lg1 := (ownsRow_lt hown1).2.1
       have H1 := Lib.hid (And.intro hb1 hown1); clear hb1 hown1))
  refine wp_loop_rounds 2 ?_
  rw [rounds_succ]
  go_upto_region 5 with (first
    | (refine wpList_load_mid rfl 100 (.tmp 16) rfl g 0 rfl (threadC x (.slice (some ⟨gc, 0, none⟩) 1 cc)) _ (row_range H1.out.2) Tryz.underlying100 rfl (thread_len _ _) ?_)
    | ((with_reducible refine at_store_law ?_); refine wpList_store_row rfl 100 _ _ rfl _ _ rfl rfl _ _ (by (repeat (first | assumption | exact heap_alloc_new _ _ | refine block_old ?_ | refine block_drew ?_ | apply setRow_heap | (refine (setRow_other _ _ _ _ ?_).trans ?_; omega)))) (thread_size _ _) (by rw [thread_arr]; rfl) (thread_all x gc cc) ?_; (try simp only [World.setRow_alloc_new])))
  have ks := H1.out.1.size
  have kc := ownsRow_below' (ownsRow_below' HH.out.2 H1.out.1) ((Below.refl w1.heap.size w1).alloc (Nat.le_refl _) (.cells (threadC x (.slice (some ⟨gc, 0, none⟩) 1 cc)).toArray 100))
  have HK := Lib.hid kc
  clear kc
  go_wp2_with (first
    | (refine wpList_load_row rfl 100 (.tmp 5) rfl w1.heap.size rfl 100 (threadC x (.slice (some ⟨gc, 0, none⟩) 1 cc)).toArray (0, 0) _ (heap_alloc_new _ _) Tryz.underlying100 rfl (thread_size _ _) ?_)
    | (go_at_call 102; refine (pcopied x gc cc _ HK.out).mono ?_; rintro e w2 ⟨⟨g3, c3', rfl⟩, hb2⟩
       have kown := ownsRow_below' (ownsRow_below' H1.out.2 ((Below.refl w1.heap.size w1).alloc (Nat.le_refl _) (.cells (threadC x (.slice (some ⟨gc, 0, none⟩) 1 cc)).toArray 100))) hb2
       have H2 := Lib.hid (And.intro hb2 kown); clear hb2 kown)
    | ((with_reducible refine at_store_law ?_); refine wpList_store_mid rfl 100 _ _ rfl g 0 (threadC x (.slice (some ⟨g3, 0, none⟩) 1 c3')).toArray rfl rfl ?ht (thread_size _ _) (thread_all x g3 c3') ?_))
  case ht =>
    intro j hj
    have hj' : j < (threadC x (.slice (some ⟨gc, 0, none⟩) 1 cc)).length := by rw [thread_arr] at hj; rw [thread_len']; exact hj
    obtain ⟨h1, h2⟩ := row_cell H2.out.2 j (List.getElem?_eq_getElem hj')
    rw [Nat.zero_add, h1]
    exact ⟨rfl, h2⟩
  rw [rounds_succ]
  go_wp2
  go_ret
  refine ⟨⟨g, c, rfl⟩, ?_⟩
  have hB := below_call (H1.out.1.alloc H1.out.1.size (.cells (threadC x (.slice (some ⟨gc, 0, none⟩) 1 cc)).toArray 100)) H2.out.1
  exact (Only.setCells g (.inr (ownsRow_lt H1.out.2).1) _ 0 _ (Only.of_below_le hB (fun k _ h => h) : Only (fun b => w.heap.size ≤ b) w w2)).below (Nat.le_refl _) (fun k h => h)

set_option maxRecDepth 100000 in
theorem pout (p s b l : Nat) (th : Value) (w : World) (hp : w.heap[p]? = some (.cells (procC s b l th).toArray 81 (0, 0))) :
    Calls Tryz.prog 50 #[.pointer (some ⟨p, 0, none⟩)] w fun e w' => e = .returned (.slice none 0 0) ∧ Below w.heap.size w w' := by
  have lp := lt_of_block hp
  unfold procC at hp
  have c4 := cell_l hp 4 rfl
  clear hp
  go_enter Tryz.func50, Tryz.ntmps50
  go_wp2_with (go_at_call 100; refine (clone_ints_nil _).mono ?_; rintro e wz ⟨rfl, hwz⟩; rw [hwz]; clear hwz wz)
  go_ret
  exact ⟨rfl, Below.refl _ _⟩
end Go.Proofs.YtkbilipgidcgeaaGreatDoor
