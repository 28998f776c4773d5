/- proc: Copy. -/
import Derived.Test.YtkbilipgidcgeaaGreatDoorW27
import Derived.Test.YtkbilipgidcgeaaGreatDoorW10
set_option linter.unusedVariables false
set_option linter.unusedSimpArgs false
namespace Go.Proofs.YtkbilipgidcgeaaGreatDoor
open Go.RowKit Go.ChangeMaps
attribute [local go_sem] ext_cell ext_frozen run_store_func mk_ints0 mk_ints1 mk_ints2 mk_lists0 mk_lists1 mk_lists2 ta_ints run_makeMap
attribute [local irreducible] labCells modC threadC

/-- What a conversion asks of a process. -/
structure ProcLite (B : ByteArray) (w : World) (p s l gm cm : Nat) : Prop where
  head : ∃ b th, w.heap[p]? = some (.cells (procC s b l th).toArray 81 (0, 0))
  load : ∃ s' b st ord, w.heap[l]? = some (.cells (loaderC s' b st (.slice (some ⟨gm, 0, none⟩) 1 cm) ord).toArray 149 (0, 0))
  mods : w.ownsRow 0 91 32 (.slice (some ⟨gm, 0, none⟩) 1 cm) 1 (modC B 512 1)

theorem ProcAt.lite {B : ByteArray} {w : World} {n : PN} (h : ProcAt B w n) : ProcLite B w n.p n.s n.l n.gm n.cm := ⟨⟨_, _, h.head⟩, ⟨_, _, _, _, h.load⟩, h.mods⟩

theorem proc_size (s b l : Nat) (t : Value) : (Tryz.prog.info? 81).map (·.size) = some (procC s b l t).toArray.size := by kernel_rfl

set_option maxRecDepth 100000 in
set_option maxHeartbeats 2000000 in
theorem pcopy (n : PN) (B : ByteArray) (ps : List Part) (w : World) (hP : ProcAt B w n) (hA : AreasOk ps) (hsp : SpaceAt w n.s (.slice (some ⟨n.g, 0, none⟩) ps.length n.cap) ps) (hne : 0 < ps.length) :
    Calls Tryz.prog 18 #[.pointer (some ⟨n.p, 0, none⟩)] w fun e w' => ∃ q s2 l2 gm2 cm2 pv ns, e = .returned (.pointer (some ⟨q, 0, none⟩)) ∧ Below w.heap.size w w' ∧ ProcLite B w' q s2 l2 gm2 cm2 ∧
      SpaceAt w' s2 pv ns ∧ Moved ns ps ∧ ∀ b, spaceFoot s2 pv ns b → w.heap.size ≤ b := by
  obtain ⟨p, s, b, l, st, mo, th, at_, gm, cm, gq, cq, gt, ct, gc, cc, g, cap, b1, b2, b3⟩ := n
  have lp := lt_of_block hP.head
  have HP := Lib.hid hP
  have HS := Lib.hid (And.intro hA (And.intro hsp hne))
  have hp := hP.head
  clear hP hA hsp hne
  dsimp only at *
  go_enter Tryz.func18, Tryz.ntmps18
  go_upto_region 2 with (first
    | (refine wpList_load_row rfl 81 (.tmp 5) rfl p rfl 81 (procC s b l (.slice (some ⟨gt, 0, none⟩) 1 ct)).toArray (0, 0) _ hp Tryz.underlying81 rfl (proc_size _ _ _ _) ?_)
    | ((with_reducible refine at_store_law ?_); refine wpList_store_row rfl 81 _ _ rfl _ _ rfl rfl _ _ (by (repeat (first | assumption | exact heap_alloc_new _ _ | refine block_old ?_ | refine block_drew ?_ | apply setRow_heap | (refine (setRow_other _ _ _ _ ?_).trans ?_; omega)))) (proc_size _ _ _ _) (by rfl) (by simp [procC, Value.oneCell']) ?_; (try simp only [World.setRow_alloc_new])))
  refine name_world fun V hV => ?_
  have vB : Below w.heap.size w V := by rw [← hV]; go_grown
  have vq : V.heap[w.heap.size]? = some (.cells (procC s b l (.slice (some ⟨gt, 0, none⟩) 1 ct)).toArray 81 (0, 0)) := by rw [← hV]; exact heap_alloc_new _ _
  have vp := (vB.block _ lp).trans hp
  have vsp := HS.out.2.1.below vB
  clear hV hp
  have vBs := vB.size
  have lq := lt_of_block vq
  have lpV := lt_of_block vp
  have vp' := vp
  unfold procC at vp'
  have c0 := cell_l vp' 0 rfl
  have HV := Lib.hid (And.intro vB (And.intro vq (And.intro vp vsp)))
  clear vB vq vp vsp vp'
  go_wp2_with fail
  refine (copy_row s g cap ps _ HS.out.1 HV.out.2.2.2 HS.out.2.2).mono ?_
  rintro e w1 ⟨hb1, s2, pv, ns, rfl, hsp1, hmv, hft⟩
  obtain ⟨vB, vq, vp, vsp⟩ := HV.out
  have kq := (hb1.block _ (lt_of_block vq)).trans vq
  have kB := vB.trans (hb1.mono vB.size)
  have kq' := kq
  unfold procC at kq'
  have d0 := cell_l kq' 0 rfl; have f0 := free_in kq' 0
  have lq1 := lt_of_block kq
  have H1 := Lib.hid (And.intro kB (And.intro kq (And.intro hsp1 (And.intro hmv hft))))
  have l1 := hb1.size
  clear vB vq vp vsp kq kB kq' hsp1 hmv hft hb1 HV c0
  go_upto_region 3 with fail
  refine name_world fun X hX => ?_
  obtain ⟨kB, kq, hsp1, hmv, hft⟩ := H1.out
  have xo : Only (· = w.heap.size) w1 X := by rw [← hX]; exact (Only.refl (· = w.heap.size) w1).setCell ⟨w.heap.size, 0, none⟩ _ (.inl rfl)
  have xq : X.heap[w.heap.size]? = some (.cells (procC s2 b l (.slice (some ⟨gt, 0, none⟩) 1 ct)).toArray 81 (0, 0)) := by rw [← hX]; exact block_set kq 0 _
  have xB : Below w.heap.size w X := ((Only.of_below_le kB (fun k _ h => h) : Only (fun b => w.heap.size ≤ b) w w1).then xo (by intro k _ h; omega)).below (Nat.le_refl _) (fun k h => h)
  have xsp := hsp1.kept xo (by rintro k hk rfl; exact hsp1.not_cells kq (by decide) (by decide) (by decide) hk)
  have hP := HP.out
  have xp := (xB.block _ (lt_of_block hP.head)).trans hP.head
  have xb := (xB.block _ (lt_of_block hP.blocks)).trans hP.blocks
  have xmo := (xB.block _ (lt_of_block hP.known)).trans hP.known
  have xth := (xB.block _ (lt_of_block hP.thrs)).trans hP.thrs
  have xat := (xB.block _ (lt_of_block hP.ats)).trans hP.ats
  dsimp only at xp xb xmo xth xat
  have xp' := xp
  unfold procC at xp'
  have xq' := xq
  unfold procC at xq'
  have lwx := xB.size
  have HX := Lib.hid (And.intro xB (And.intro xq (And.intro xsp (And.intro hmv (And.intro xo (And.intro xb (And.intro xmo (And.intro xth xat))))))))
  have HF := Lib.hid (show ∀ b, spaceFoot s2 pv ns b → w.heap.size ≤ b from fun b hb => Nat.le_trans vBs (hft b hb))
  clear kB kq hsp1 hmv hft xo xq xB xsp hP xp xb xmo xth xat hX H1 d0 f0
  refine wp_region_facts [.val (.pointer (some ⟨p, 0, none⟩)), .val (.pointer (some ⟨p, 0, none⟩)), .val (.pointer (some ⟨p, 1, none⟩)), .val (.pointer (some ⟨b, 0, none⟩)), .val (.pointer (some ⟨w.heap.size, 0, none⟩)), .val (.pointer (some ⟨s2, 0, none⟩)), .more (fun v _ => ∃ k, v = .pointer (some ⟨k, 0, none⟩)) (fun v w' w'' hb h => h)] (by kernel_rfl) (by kernel_rfl) ?_ ?_
  · simp only [stepsAll, List.take, List.length]
    refine ⟨?_, ?_, ?_, ?_, ?_, ?_, ?_, ?_⟩
    all_goals first | trivial | (intro a wr hb hf hd)
    all_goals have hf0 : a.tmps[(0 : Nat)]?.getD undef = .pointer (some ⟨p, 0, none⟩) := (hf 0 (by decide +kernel)).trans rfl
    all_goals have hf3 : a.tmps[(3 : Nat)]?.getD undef = .pointer (some ⟨w.heap.size, 0, none⟩) := (hf 3 (by decide +kernel)).trans rfl
    · exact grow_tmp _ rfl ⟨hf0, fun h => by cases h⟩
    · have h13 : a.tmps[(13 : Nat)]?.getD undef = .pointer (some ⟨p, 0, none⟩) := hd 0 (by simp) (by kernel_rfl)
      exact grow_value (v := .pointer (some ⟨p, 0, none⟩)) (by simp [execOp, h13, go_sem]) (Below.refl _ _) ⟨rfl, fun h => by cases h⟩
    · have h14 : a.tmps[(14 : Nat)]?.getD undef = .pointer (some ⟨p, 0, none⟩) := hd 1 (by simp) (by kernel_rfl)
      exact grow_value (v := .pointer (some ⟨p, 1, none⟩)) (by simp [execOp, h14, go_sem]) (Below.refl _ _) ⟨rfl, fun h => by cases h⟩
    · have h15 : a.tmps[(15 : Nat)]?.getD undef = .pointer (some ⟨p, 1, none⟩) := hd 2 (by simp) (by kernel_rfl)
      have hc := cell_l ((hb.block _ (lt_of_block xp')).trans xp') 1 (rfl)
      exact grow_value (v := .pointer (some ⟨b, 0, none⟩)) (by simp [execOp, h15, hc, go_sem]) (Below.refl _ _) ⟨rfl, fun h => by cases h⟩
    · exact grow_value (v := .pointer (some ⟨w.heap.size, 0, none⟩)) (by simp [execOp, hf3, go_sem]) (Below.refl _ _) ⟨rfl, fun h => by cases h⟩
    · have h17 : a.tmps[(17 : Nat)]?.getD undef = .pointer (some ⟨w.heap.size, 0, none⟩) := hd 4 (by simp) (by kernel_rfl)
      have hc := cell_l ((hb.block _ (lt_of_block xq')).trans xq') 0 (rfl)
      exact grow_value (v := .pointer (some ⟨s2, 0, none⟩)) (by simp [execOp, h17, hc, go_sem]) (Below.refl _ _) ⟨rfl, fun h => by cases h⟩
    · have h16 : a.tmps[(16 : Nat)]?.getD undef = .pointer (some ⟨b, 0, none⟩) := hd 3 (by simp) (by kernel_rfl)
      have h18 : a.tmps[(18 : Nat)]?.getD undef = .pointer (some ⟨s2, 0, none⟩) := hd 5 (by simp) (by kernel_rfl)
      obtain ⟨_, _, _, _, _, xb, xmo, xth, xat⟩ := HX.out
      refine grow_call (f := 47) (args := #[.pointer (some ⟨b, 0, none⟩), .pointer (some ⟨s2, 0, none⟩)]) (by simp [execOp, h16, h18, go_sem]) ?_
      refine (tcopy b s s2 mo th at_ _ _ _ _ _ _ _ ((hb.block _ (lt_of_block xb)).trans xb) ((hb.block _ (lt_of_block xmo)).trans xmo) ((hb.block _ (lt_of_block xth)).trans xth) ((hb.block _ (lt_of_block xat)).trans xat)).mono ?_
      rintro e w3 ⟨⟨k, rfl⟩, hb3⟩
      exact ⟨_, rfl, hb3, ⟨k, rfl⟩, fun h => by cases h⟩
  · intro fv w2 hb2 hs hn hne
    have g13 : fv 13 = .pointer (some ⟨p, 0, none⟩) := hs 0 (by simp)
    have g14 : fv 14 = .pointer (some ⟨p, 0, none⟩) := hs 1 (by simp)
    have g15 : fv 15 = .pointer (some ⟨p, 1, none⟩) := hs 2 (by simp)
    have g16 : fv 16 = .pointer (some ⟨b, 0, none⟩) := hs 3 (by simp)
    have g17 : fv 17 = .pointer (some ⟨w.heap.size, 0, none⟩) := hs 4 (by simp)
    have g18 : fv 18 = .pointer (some ⟨s2, 0, none⟩) := hs 5 (by simp)
    obtain ⟨k2, g19⟩ : ∃ k, fv 19 = .pointer (some ⟨k, 0, none⟩) := hs 6 (by simp)
    rw [show (List.range (List.length _)).map (dstOf _) = [13, 14, 15, 16, 17, 18, 19] from by kernel_rfl]
    simp only [actOf, List.foldl, Act.put, List.drop, List.length, g13, g14, g15, g16, g17, g18, g19, List.setIfInBounds_toArray, List.set_cons_zero, List.set_cons_succ]
    clear hs hn hne g13 g14 g15 g16 g17 g18 g19
    have zq := (hb2.block _ (lt_of_block HX.out.2.1)).trans HX.out.2.1
    have zq' := zq
    unfold procC at zq'
    have d1 := cell_l zq' 1 rfl; have f1 := free_in zq' 1
    have lq2 := lt_of_block zq
    have lX2 := hb2.size
    have HZ := Lib.hid (And.intro hb2 zq)
    clear hb2 zq zq' xp' xq'
    go_upto_region 4 with fail
    refine name_world fun Y hY => ?_
    obtain ⟨hb2, zq⟩ := HZ.out
    obtain ⟨xB, xq, xsp, hmv, xo, xb, xmo, xth, xat⟩ := HX.out
    have yo : Only (· = w.heap.size) w2 Y := by rw [← hY]; exact (Only.refl (· = w.heap.size) w2).setCell ⟨w.heap.size, 1, none⟩ _ (.inl rfl)
    have yq : Y.heap[w.heap.size]? = some (.cells (procC s2 k2 l (.slice (some ⟨gt, 0, none⟩) 1 ct)).toArray 81 (0, 0)) := by rw [← hY]; exact block_set zq 1 _
    have yB : Below w.heap.size w Y := ((Only.of_below_le (xB.trans (hb2.mono xB.size)) (fun k _ h => h) : Only (fun b => w.heap.size ≤ b) w w2).then yo (by intro k _ h; omega)).below (Nat.le_refl _) (fun k h => h)
    have zsp := xsp.below hb2
    have ysp := zsp.kept yo (by rintro k hk rfl; exact zsp.not_cells zq (by decide) (by decide) (by decide) hk)
    have hP := HP.out
    have yp := (yB.block _ (lt_of_block hP.head)).trans hP.head
    have yl := (yB.block _ (lt_of_block hP.load)).trans hP.load
    have yst := (yB.block _ (lt_of_block hP.store)).trans hP.store
    have ym := ownsRow_below' hP.mods yB
    have yr := ownsRow_below' hP.order yB
    dsimp only at yp yl yst ym yr
    have yp' := yp
    unfold procC at yp'
    have yq' := yq
    unfold procC at yq'
    have lwy := yB.size
    have HY := Lib.hid (And.intro yB (And.intro yq (And.intro ysp (And.intro yl (And.intro yst (And.intro ym yr))))))
    clear hb2 zq xB xq xsp xo xb xmo xth xat yo yq yB zsp ysp hP yp yl yst ym yr hY HZ HX d1 f1
    refine wp_region_facts [.val (.pointer (some ⟨p, 0, none⟩)), .val (.pointer (some ⟨p, 0, none⟩)), .val (.pointer (some ⟨p, 2, none⟩)), .val (.pointer (some ⟨l, 0, none⟩)), .val (.pointer (some ⟨w.heap.size, 0, none⟩)), .val (.pointer (some ⟨s2, 0, none⟩)), .val (.pointer (some ⟨w.heap.size, 1, none⟩)), .val (.pointer (some ⟨k2, 0, none⟩)), .more (fun v w' => ∃ l2 st2 gm2 cm2 gq2 cq2, v = .pointer (some ⟨l2, 0, none⟩) ∧ w'.heap[l2]? = some (.cells (loaderC s2 k2 st2 (.slice (some ⟨gm2, 0, none⟩) 1 cm2) (.slice (some ⟨gq2, 0, none⟩) 1 cq2)).toArray 149 (0, 0)) ∧ w'.ownsRow w.heap.size 91 32 (.slice (some ⟨gm2, 0, none⟩) 1 cm2) 1 (modC B 512 1)) (fun v w' w'' hb h => by obtain ⟨l2, st2, gm2, cm2, gq2, cq2, h1, h2, h3⟩ := h; exact ⟨l2, st2, gm2, cm2, gq2, cq2, h1, (hb.block _ (lt_of_block h2)).trans h2, ownsRow_below' h3 hb⟩)] (by kernel_rfl) (by kernel_rfl) ?_ ?_
    · simp only [stepsAll, List.take, List.length]
      refine ⟨?_, ?_, ?_, ?_, ?_, ?_, ?_, ?_, ?_, ?_⟩
      all_goals first | trivial | (intro a wr hb hf hd)
      all_goals have hf0 : a.tmps[(0 : Nat)]?.getD undef = .pointer (some ⟨p, 0, none⟩) := (hf 0 (by decide +kernel)).trans rfl
      all_goals have hf3 : a.tmps[(3 : Nat)]?.getD undef = .pointer (some ⟨w.heap.size, 0, none⟩) := (hf 3 (by decide +kernel)).trans rfl
      · exact grow_tmp _ rfl ⟨hf0, fun h => by cases h⟩
      · have h21 : a.tmps[(21 : Nat)]?.getD undef = .pointer (some ⟨p, 0, none⟩) := hd 0 (by simp) (by kernel_rfl)
        exact grow_value (v := .pointer (some ⟨p, 0, none⟩)) (by simp [execOp, h21, go_sem]) (Below.refl _ _) ⟨rfl, fun h => by cases h⟩
      · have h22 : a.tmps[(22 : Nat)]?.getD undef = .pointer (some ⟨p, 0, none⟩) := hd 1 (by simp) (by kernel_rfl)
        exact grow_value (v := .pointer (some ⟨p, 2, none⟩)) (by simp [execOp, h22, go_sem]) (Below.refl _ _) ⟨rfl, fun h => by cases h⟩
      · have h23 : a.tmps[(23 : Nat)]?.getD undef = .pointer (some ⟨p, 2, none⟩) := hd 2 (by simp) (by kernel_rfl)
        have hc := cell_l ((hb.block _ (lt_of_block yp')).trans yp') 2 (rfl)
        exact grow_value (v := .pointer (some ⟨l, 0, none⟩)) (by simp [execOp, h23, hc, go_sem]) (Below.refl _ _) ⟨rfl, fun h => by cases h⟩
      · exact grow_value (v := .pointer (some ⟨w.heap.size, 0, none⟩)) (by simp [execOp, hf3, go_sem]) (Below.refl _ _) ⟨rfl, fun h => by cases h⟩
      · have h25 : a.tmps[(25 : Nat)]?.getD undef = .pointer (some ⟨w.heap.size, 0, none⟩) := hd 4 (by simp) (by kernel_rfl)
        have hc := cell_l ((hb.block _ (lt_of_block yq')).trans yq') 0 (rfl)
        exact grow_value (v := .pointer (some ⟨s2, 0, none⟩)) (by simp [execOp, h25, hc, go_sem]) (Below.refl _ _) ⟨rfl, fun h => by cases h⟩
      · exact grow_value (v := .pointer (some ⟨w.heap.size, 1, none⟩)) (by simp [execOp, hf3, go_sem]) (Below.refl _ _) ⟨rfl, fun h => by cases h⟩
      · have h27 : a.tmps[(27 : Nat)]?.getD undef = .pointer (some ⟨w.heap.size, 1, none⟩) := hd 6 (by simp) (by kernel_rfl)
        have hc := cell_l ((hb.block _ (lt_of_block yq')).trans yq') 1 (rfl)
        exact grow_value (v := .pointer (some ⟨k2, 0, none⟩)) (by simp [execOp, h27, hc, go_sem]) (Below.refl _ _) ⟨rfl, fun h => by cases h⟩
      · have h24 : a.tmps[(24 : Nat)]?.getD undef = .pointer (some ⟨l, 0, none⟩) := hd 3 (by simp) (by kernel_rfl)
        have h26 : a.tmps[(26 : Nat)]?.getD undef = .pointer (some ⟨s2, 0, none⟩) := hd 5 (by simp) (by kernel_rfl)
        have h28 : a.tmps[(28 : Nat)]?.getD undef = .pointer (some ⟨k2, 0, none⟩) := hd 7 (by simp) (by kernel_rfl)
        obtain ⟨_, _, _, yl, yst, ym, yr⟩ := HY.out
        refine grow_call (f := 48) (args := #[.pointer (some ⟨l, 0, none⟩), .pointer (some ⟨s2, 0, none⟩), .pointer (some ⟨k2, 0, none⟩)]) (by simp [execOp, h24, h26, h28, go_sem]) ?_
        refine (lcopy l s b st gm cm gq cq s2 k2 _ _ B _ ((hb.block _ (lt_of_block yl)).trans yl) (ownsRow_below' ym hb) (ownsRow_below' yr hb) ((hb.block _ (lt_of_block yst)).trans yst)).mono ?_
        rintro e w3 ⟨l2, st2, gm2, cm2, gq2, cq2, rfl, hb3, ll2, hl2, hm2⟩
        exact ⟨_, rfl, hb3, ⟨l2, st2, gm2, cm2, gq2, cq2, rfl, hl2, ownsRow_lower hm2 (by have := hb.size; omega)⟩, fun h => by cases h⟩
    · intro fw w3 hb3 hs hn hne
      have g21 : fw 21 = .pointer (some ⟨p, 0, none⟩) := hs 0 (by simp)
      have g22 : fw 22 = .pointer (some ⟨p, 0, none⟩) := hs 1 (by simp)
      have g23 : fw 23 = .pointer (some ⟨p, 2, none⟩) := hs 2 (by simp)
      have g24 : fw 24 = .pointer (some ⟨l, 0, none⟩) := hs 3 (by simp)
      have g25 : fw 25 = .pointer (some ⟨w.heap.size, 0, none⟩) := hs 4 (by simp)
      have g26 : fw 26 = .pointer (some ⟨s2, 0, none⟩) := hs 5 (by simp)
      have g27 : fw 27 = .pointer (some ⟨w.heap.size, 1, none⟩) := hs 6 (by simp)
      have g28 : fw 28 = .pointer (some ⟨k2, 0, none⟩) := hs 7 (by simp)
      obtain ⟨l2, st2, gm2, cm2, gq2, cq2, g29, zl2, zm2⟩ : ∃ l2 st2 gm2 cm2 gq2 cq2, fw 29 = .pointer (some ⟨l2, 0, none⟩) ∧ w3.heap[l2]? = some (.cells (loaderC s2 k2 st2 (.slice (some ⟨gm2, 0, none⟩) 1 cm2) (.slice (some ⟨gq2, 0, none⟩) 1 cq2)).toArray 149 (0, 0)) ∧ w3.ownsRow w.heap.size 91 32 (.slice (some ⟨gm2, 0, none⟩) 1 cm2) 1 (modC B 512 1) := hs 8 (by simp)
      rw [show (List.range (List.length _)).map (dstOf _) = [21, 22, 23, 24, 25, 26, 27, 28, 29] from by kernel_rfl]
      simp only [actOf, List.foldl, Act.put, List.drop, List.length, g21, g22, g23, g24, g25, g26, g27, g28, g29, List.setIfInBounds_toArray, List.set_cons_zero, List.set_cons_succ]
      clear hs hn hne g21 g22 g23 g24 g25 g26 g27 g28 g29
      have zq := (hb3.block _ (lt_of_block HY.out.2.1)).trans HY.out.2.1
      have zq' := zq
      unfold procC at zq'
      have d2 := cell_l zq' 2 rfl; have f2 := free_in zq' 2
      have lq3 := lt_of_block zq
      have lY3 := hb3.size
      have HZ := Lib.hid (And.intro hb3 (And.intro zq (And.intro zl2 zm2)))
      clear hb3 zq zq' yp' yq' zl2 zm2
      go_upto_region 5 with fail
      refine name_world fun U hU => ?_
      obtain ⟨hb3, zq, zl2, zm2⟩ := HZ.out
      obtain ⟨yB, yq, ysp, yl, yst, ym, yr⟩ := HY.out
      have uo : Only (· = w.heap.size) w3 U := by rw [← hU]; exact (Only.refl (· = w.heap.size) w3).setCell ⟨w.heap.size, 2, none⟩ _ (.inl rfl)
      have uq : U.heap[w.heap.size]? = some (.cells (procC s2 k2 l2 (.slice (some ⟨gt, 0, none⟩) 1 ct)).toArray 81 (0, 0)) := by rw [← hU]; exact block_set zq 2 _
      have uB : Below w.heap.size w U := ((Only.of_below_le (yB.trans (hb3.mono yB.size)) (fun k _ h => h) : Only (fun b => w.heap.size ≤ b) w w3).then uo (by intro k _ h; omega)).below (Nat.le_refl _) (fun k h => h)
      have zsp := ysp.below hb3
      have usp := zsp.kept uo (by rintro k hk rfl; exact zsp.not_cells zq (by decide) (by decide) (by decide) hk)
      have ul2 := uo.kept zl2 (block_ne zl2 zq (by decide))
      have um2 := ownsRow_kept zm2 uo (by obtain ⟨_, _, cur, hcur⟩ := ownsRow_lt zm2; exact block_ne hcur zq (by decide))
      have hP := HP.out
      have up := (uB.block _ (lt_of_block hP.head)).trans hP.head
      have ut := ownsRow_below' hP.thread uB
      have uc := ownsRow_below' hP.calls uB
      dsimp only at up ut uc
      have up' := up
      unfold procC at up'
      have lwu := uB.size
      have HU := Lib.hid (And.intro uB (And.intro uq (And.intro usp (And.intro ul2 (And.intro um2 (And.intro up (And.intro ut uc)))))))
      clear hb3 zq zl2 zm2 yB yq ysp yl yst ym yr uo uq uB zsp usp ul2 um2 hP up ut uc hU HZ HY d2 f2
      refine wp_region_facts [.val (.pointer (some ⟨p, 0, none⟩)), .more (fun v _ => ∃ g c, v = .slice (some ⟨g, 0, none⟩) 1 c) (fun v w' w'' hb h => h), .val (.pointer (some ⟨p, 0, none⟩)), .val (.slice none 0 0), .val (.pointer (some ⟨p, 0, none⟩)), .val (.pointer (some ⟨p, 0, none⟩)), .val (.pointer (some ⟨p, 5, none⟩)), .val (.slice none 0 0), .val (.slice none 0 0)] (by kernel_rfl) (by kernel_rfl) ?_ ?_
      · simp only [stepsAll, List.take, List.length]
        refine ⟨?_, ?_, ?_, ?_, ?_, ?_, ?_, ?_, ?_, ?_⟩
        all_goals first | trivial | (intro a wr hb hf hd)
        all_goals have hf0 : a.tmps[(0 : Nat)]?.getD undef = .pointer (some ⟨p, 0, none⟩) := (hf 0 (by decide +kernel)).trans rfl
        · exact grow_tmp _ rfl ⟨hf0, fun h => by cases h⟩
        · have h31 : a.tmps[(31 : Nat)]?.getD undef = .pointer (some ⟨p, 0, none⟩) := hd 0 (by simp) (by kernel_rfl)
          obtain ⟨_, _, _, _, _, up, ut, uc⟩ := HU.out
          refine grow_call (f := 49) (args := #[.pointer (some ⟨p, 0, none⟩)]) (by simp [execOp, h31, go_sem]) ?_
          refine (pthreads p s b l gt ct gc cc 2304 _ ((hb.block _ (lt_of_block up)).trans up) (ownsRow_below' ut hb) (ownsRow_below' uc hb)).mono ?_
          rintro e w3 ⟨⟨g, c, rfl⟩, hb3⟩
          exact ⟨_, rfl, hb3, ⟨g, c, rfl⟩, fun h => by cases h⟩
        · exact grow_tmp _ rfl ⟨hf0, fun h => by cases h⟩
        · have h33 : a.tmps[(33 : Nat)]?.getD undef = .pointer (some ⟨p, 0, none⟩) := hd 2 (by simp) (by kernel_rfl)
          obtain ⟨_, _, _, _, _, up, ut, uc⟩ := HU.out
          refine grow_call (f := 50) (args := #[.pointer (some ⟨p, 0, none⟩)]) (by simp [execOp, h33, go_sem]) ?_
          refine (pout p s b l _ _ ((hb.block _ (lt_of_block up)).trans up)).mono ?_
          rintro e w3 ⟨rfl, hb3⟩
          exact ⟨_, rfl, hb3, rfl, fun h => by cases h⟩
        · exact grow_tmp _ rfl ⟨hf0, fun h => by cases h⟩
        · have h35 : a.tmps[(35 : Nat)]?.getD undef = .pointer (some ⟨p, 0, none⟩) := hd 4 (by simp) (by kernel_rfl)
          exact grow_value (v := .pointer (some ⟨p, 0, none⟩)) (by simp [execOp, h35, go_sem]) (Below.refl _ _) ⟨rfl, fun h => by cases h⟩
        · have h36 : a.tmps[(36 : Nat)]?.getD undef = .pointer (some ⟨p, 0, none⟩) := hd 5 (by simp) (by kernel_rfl)
          exact grow_value (v := .pointer (some ⟨p, 5, none⟩)) (by simp [execOp, h36, go_sem]) (Below.refl _ _) ⟨rfl, fun h => by cases h⟩
        · have h37 : a.tmps[(37 : Nat)]?.getD undef = .pointer (some ⟨p, 5, none⟩) := hd 6 (by simp) (by kernel_rfl)
          have hc := cell_l ((hb.block _ (lt_of_block up')).trans up') 5 (rfl)
          exact grow_value (v := .slice none 0 0) (by simp [execOp, h37, hc, go_sem]) (Below.refl _ _) ⟨rfl, fun h => by cases h⟩
        · have h38 : a.tmps[(38 : Nat)]?.getD undef = .slice none 0 0 := hd 7 (by simp) (by kernel_rfl)
          refine grow_call (f := 51) (args := #[.slice none 0 0]) (by simp [execOp, h38, go_sem]) ?_
          refine (clone_strata_nil _).mono ?_
          rintro e w3 ⟨rfl, rfl⟩
          exact ⟨_, rfl, Below.refl _ _, rfl, fun h => by cases h⟩
      · intro fx w4 hb4 hs hn hne
        have g31 : fx 31 = .pointer (some ⟨p, 0, none⟩) := hs 0 (by simp)
        have g33 : fx 33 = .pointer (some ⟨p, 0, none⟩) := hs 2 (by simp)
        have g34 : fx 34 = .slice none 0 0 := hs 3 (by simp)
        have g35 : fx 35 = .pointer (some ⟨p, 0, none⟩) := hs 4 (by simp)
        have g36 : fx 36 = .pointer (some ⟨p, 0, none⟩) := hs 5 (by simp)
        have g37 : fx 37 = .pointer (some ⟨p, 5, none⟩) := hs 6 (by simp)
        have g38 : fx 38 = .slice none 0 0 := hs 7 (by simp)
        have g39 : fx 39 = .slice none 0 0 := hs 8 (by simp)
        obtain ⟨gt2, ct2, g32⟩ : ∃ g c, fx 32 = .slice (some ⟨g, 0, none⟩) 1 c := hs 1 (by simp)
        rw [show (List.range (List.length _)).map (dstOf _) = [31, 32, 33, 34, 35, 36, 37, 38, 39] from by kernel_rfl]
        simp only [actOf, List.foldl, Act.put, List.drop, List.length, g31, g33, g34, g35, g36, g37, g38, g39, g32, List.setIfInBounds_toArray, List.set_cons_zero, List.set_cons_succ]
        clear hs hn hne g31 g33 g34 g35 g36 g37 g38 g39 g32
        have zq := (hb4.block _ (lt_of_block HU.out.2.1)).trans HU.out.2.1
        have zq' := zq
        unfold procC at zq'
        have d3 := cell_l zq' 3 rfl; have f3 := free_in zq' 3; have d4 := cell_l zq' 4 rfl; have f4 := free_in zq' 4; have d5 := cell_l zq' 5 rfl; have f5 := free_in zq' 5
        have lq4 := lt_of_block zq
        have HZ := Lib.hid (And.intro hb4 zq)
        clear hb4 zq zq' up'
        go_wp2
        go_ret
        generalize hT : ((w4.setCell ⟨w.heap.size, 3, none⟩ (.slice (some ⟨gt2, 0, none⟩) 1 ct2)).setCell ⟨w.heap.size, 4, none⟩ (.slice none 0 0)).setCell ⟨w.heap.size, 5, none⟩ (.slice none 0 0) = T
        obtain ⟨hb4, zq⟩ := HZ.out
        obtain ⟨uB, uq, usp, ul2, um2, _, _, _⟩ := HU.out
        have to_ : Only (· = w.heap.size) w4 T := by rw [← hT]; exact (((Only.refl (· = w.heap.size) w4).setCell ⟨w.heap.size, 3, none⟩ _ (.inl rfl)).setCell ⟨w.heap.size, 4, none⟩ _ (.inl rfl)).setCell ⟨w.heap.size, 5, none⟩ _ (.inl rfl)
        have tq : T.heap[w.heap.size]? = some (.cells (procC s2 k2 l2 (.slice (some ⟨gt2, 0, none⟩) 1 ct2)).toArray 81 (0, 0)) := by rw [← hT]; exact block_set (block_set (block_set zq 3 _) 4 _) 5 _
        have zsp := usp.below hb4
        have zl2 := (hb4.block _ (lt_of_block ul2)).trans ul2
        have zm2 := ownsRow_below' um2 hb4
        refine ⟨w.heap.size, s2, l2, gm2, cm2, pv, ns, rfl, ?_, ⟨⟨_, _, tq⟩, ⟨_, _, _, _, to_.kept zl2 (block_ne zl2 zq (by decide))⟩, ?_⟩, ?_, ?_, ?_⟩
        · exact ((Only.of_below_le (uB.trans (hb4.mono uB.size)) (fun k _ h => h) : Only (fun b => w.heap.size ≤ b) w w4).then to_ (by intro k _ h; omega)).below (Nat.le_refl _) (fun k h => h)
        · exact ownsRow_lower (ownsRow_kept zm2 to_ (by obtain ⟨_, _, cur, hcur⟩ := ownsRow_lt zm2; exact block_ne hcur zq (by decide))) (Nat.zero_le _)
        · exact zsp.kept to_ (by rintro k hk rfl; exact zsp.not_cells zq (by decide) (by decide) (by decide) hk)
        · exact hmv
        · exact HF.out
end Go.Proofs.YtkbilipgidcgeaaGreatDoor
