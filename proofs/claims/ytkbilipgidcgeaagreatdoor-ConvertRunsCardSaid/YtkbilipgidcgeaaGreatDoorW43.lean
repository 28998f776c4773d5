/- linchpinlaw39.small: the example of the documentation. ConvertPieces: the two processes and what convert.Run does to them. -/
import Derived.Test.YtkbilipgidcgeaaGreatDoorW41
import Derived.Test.YtkbilipgidcgeaaGreatDoorW42
import Derived.Test.YtkbilipgidcgeaaGreatDoorW39
set_option linter.unusedVariables false
set_option linter.unusedSimpArgs false
namespace Go.Proofs.YtkbilipgidcgeaaGreatDoor
open Go.RowKit
attribute [local go_sem] ext_cell ext_frozen

theorem dataP_eq (L : List UInt8) (h : L.length = 512) (b : Nat) : dataP L b = dataQ b (L.drop 256) := by
  unfold dataP dataQ Part.put newPart
  dsimp only
  congr 1
  have hl : (L.drop 256).length = 256 := by rw [List.length_drop]; omega
  unfold putL
  rw [show (768 - 768 : Int).toNat = 0 from rfl, List.take_zero, List.nil_append, hl, show (List.replicate (256 : Int).toNat (0 : UInt8)).drop (0 + 256) = [] from rfl, List.append_nil]

/-- The data of the example. -/
def datL (d : List UInt8) : List UInt8 := d ++ List.replicate (256 - d.length) 0
theorem datL_length (d : List UInt8) (h : d.length ≤ 256) : (datL d).length = 256 := by unfold datL; simp; omega

theorem buildSlice_lab (t : Tmp) (B : ByteArray) (o : Oper) (a : Act) (w : World) (ho : o.op = .buildSlice 47 1 #[(0, .tmp t)]) (ht : a.tmps[t]?.getD undef = .agg (labCells B)) :
    (execOp a.eval o).run Tryz.prog w = .ok (.value (sl 1 w.heap.size)) (w.alloc (.cells (labCells B) 45)) := by
  unfold labCells at *
  simp [execOp, ho, ht, go_sem, sl]

attribute [local irreducible] labCells modC threadC

set_option maxRecDepth 100000 in
set_option maxHeartbeats 4000000 in
theorem small_ok (w : World) (hf : Forms w) :
    Calls Tryz.prog 6 #[] w fun e w' => e = .returned (.bool true) ∧ Below w.heap.size w w' := by
  have HF := Lib.hid hf
  clear hf
  obtain ⟨d, hd⟩ : ∃ d : List UInt8, d = [97, 98, 99, 100, 101, 102, 103, 104] := ⟨_, rfl⟩
  have hdl : d.length ≤ 256 := by rw [hd]; decide
  have hde : (⟨#[97, 98, 99, 100, 101, 102, 103, 104]⟩ : ByteArray) = ⟨d.toArray⟩ := by rw [hd]
  have HD := Lib.hid (And.intro hd hde)
  clear hd hde
  go_enter Tryz.func6, Tryz.ntmps6
  go_wp2_with fail
  go_at_call 8
  rw [HD.out.2]
  refine (lab_any d _ hdl HF.out).mono ?_
  rintro e w1 ⟨hb1, rfl⟩
  obtain ⟨B, hB⟩ : ∃ B, B = (⟨(labL d).toArray⟩ : ByteArray) := ⟨_, rfl⟩
  rw [← hB]
  have H1 := Lib.hid (And.intro hb1 hB)
  have l1 := hb1.size
  clear hb1 hB
  go_wp2_with (refine wpList_run rfl (buildSlice_lab 13 B _ _ _ rfl rfl) ?_)
  go_at_call 7
  refine (pnew_fresh w1.heap.size (labL d) B H1.out.2 (labL_length _ hdl) _ (heap_alloc_new _ _)).mono ?_
  rintro e w2 ⟨n, rfl, hb2, hP, hsp, hfr⟩
  have ns : w.heap.size ≤ n.s := Nat.le_trans (by simp; omega) (hfr _ (.inl rfl))
  have hps : [codeP (labL d) n.b1, dataP (labL d) n.b2, stackP n.b3] = labP d n.b1 n.b2 n.b3 (datL d) := by
    rw [dataP_eq _ (labL_length _ hdl), labL_data]; rfl
  rw [hps] at hsp hfr
  have kB : Below w.heap.size w w2 := H1.out.1.trans ((((Below.refl w1.heap.size w1).alloc (Nat.le_refl _) _).trans (hb2.mono (by simp))).mono l1)
  have H2 := Lib.hid (And.intro kB (And.intro hP (And.intro hsp hfr)))
  have l2 := kB.size
  clear hb2 hP hsp hfr hps kB
  go_wp2_with fail
  refine name_world fun V hV => ?_
  have vB : Below w2.heap.size w2 V := by rw [← hV]; go_grown
  have vp : V.heap[w2.heap.size]? = some (.cells (([⟨2, 3, 8⟩, ⟨0, 1, 0⟩] : List Pc).flatMap pcCells).toArray 73 (0, 0)) := by rw [← hV]; exact block_old (heap_alloc_new _ _)
  have vc : V.heap[w2.heap.size + 1]? = some (.cells (convC ⟨#[]⟩ ⟨#[]⟩ ⟨#[]⟩ (.slice (some ⟨w2.heap.size, 0, none⟩) 2 2) (-1)).toList.toArray 58 (0, 0)) := by rw [← hV]; exact heap_alloc2_new _ _ _
  obtain ⟨kB, hP, hsp, hfr⟩ := H2.out
  have vL : LabProc w.heap.size B d V n n.g n.cap (datL d) := (LabProc.mk hP.lite hsp (fun x hx => Nat.le_trans (by simp; omega) (hfr x hx))).below vB
  have kV : Below w.heap.size w V := kB.trans (vB.mono l2)
  have HV := Lib.hid (And.intro kV (And.intro vL vp))
  have lV := kV.size
  have lVp := lt_of_block vp
  have lVc := lt_of_block vc
  clear vB vp kB hP hsp hfr vL kV
  refine wp_region_facts [.val (.pointer (some ⟨n.p, 0, none⟩)), .val (.agg #[.int .i64 768, .int .i64 8]), .val (.agg (convC ⟨#[]⟩ ⟨#[]⟩ ⟨#[]⟩ (.slice (some ⟨w2.heap.size, 0, none⟩) 2 2) (-1))), .blk (fun b => .slice (some ⟨b, 0, none⟩) 16 16) (.cells (byteCells (List.replicate 16 0)).toArray 5 (0, 0)), .val (.string ⟨(List.replicate 16 0).toArray⟩)] (by kernel_rfl) (by kernel_rfl) ?_ ?_
  · simp only [stepsAll, List.take, List.length]
    refine ⟨?_, ?_, ?_, ?_, ?_, ?_⟩
    all_goals first | trivial | (intro a wx hb hf hd)
    all_goals have hf1 : a.tmps[(1 : Nat)]?.getD undef = .pointer (some ⟨n.p, 0, none⟩) := (hf 1 (by decide +kernel)).trans rfl
    all_goals have hf3 : a.tmps[(3 : Nat)]?.getD undef = .pointer (some ⟨(w2.heap.size + 1), 0, none⟩) := (hf 3 (by decide +kernel)).trans rfl
    · exact grow_tmp _ rfl ⟨hf1, fun h => by cases h⟩
    · exact grow_value (v := .agg #[.int .i64 768, .int .i64 8]) (by simp [execOp, go_sem]) (Below.refl _ _) ⟨rfl, fun h => by cases h⟩
    · exact grow_load_row 3 58 rfl (w2.heap.size + 1) hf3 _ _ _ _ ((hb.block _ (lt_of_block vc)).trans vc) Tryz.underlying58 rfl (by kernel_rfl) ⟨rfl, fun h => by cases h⟩
    · refine grow_value (v := .slice (some ⟨wx.heap.size, 0, none⟩) 16 16) (w' := wx.alloc (.cells (byteCells (List.replicate 16 0)).toArray 5)) ?_ ((Below.refl _ _).alloc (Nat.le_refl _) _) ⟨⟨_, rfl, heap_alloc_new _ _⟩, fun _ b hbk => by simp [blkOf] at hbk; subst hbk; simp⟩
      have hm := mk_bytes 16 (by omega) wx
      simp [execOp, Act.eval]
      exact congrArg (fun r => Result.andThen r _) hm
    · obtain ⟨b, hb31, hblk⟩ : ∃ b, a.tmps[(31 : Nat)]?.getD undef = .slice (some ⟨b, 0, none⟩) 16 16 ∧ wx.heap[b]? = some (.cells (byteCells (List.replicate 16 0)).toArray 5 (0, 0)) := hd 3 (by simp) (by kernel_rfl)
      exact grow_value (conv_new hblk 31 _ _ rfl hb31) (Below.refl _ _) ⟨rfl, fun h => by cases h⟩
  · intro fv w3 hb3 hs hn hne
    have g28 : fv 28 = .pointer (some ⟨n.p, 0, none⟩) := hs 0 (by simp)
    have g29 : fv 29 = .agg #[.int .i64 768, .int .i64 8] := hs 1 (by simp)
    have g30 : fv 30 = .agg (convC ⟨#[]⟩ ⟨#[]⟩ ⟨#[]⟩ (.slice (some ⟨w2.heap.size, 0, none⟩) 2 2) (-1)) := hs 2 (by simp)
    have g32 : fv 32 = .string ⟨(List.replicate 16 0).toArray⟩ := hs 4 (by simp)
    rw [show (List.range (List.length _)).map (dstOf _) = [28, 29, 30, 31, 32] from by kernel_rfl]
    simp only [actOf, List.foldl, Act.put, List.drop, List.length, g28, g29, g30, g32, List.setIfInBounds_toArray, List.set_cons_zero, List.set_cons_succ]
    clear hs hn hne g28 g29 g30 g32
    have H3 := Lib.hid hb3
    have l3 := hb3.size
    clear hb3
    go_wp2_with fail
    go_at_call 12
    obtain ⟨kV, vL, vp⟩ := HV.out
    have xp := (H3.out.block _ lVp).trans vp
    have xc := (H3.out.block _ lVc).trans vc
    have hL3 := vL.below H3.out
    have k3 := kV.trans (H3.out.mono lV)
    have n1 := hL3.space.not_cells xp (by decide) (by decide) (by decide)
    have n2 := hL3.space.not_cells xc (by decide) (by decide) (by decide)
    refine (lab_run_ok w.heap.size B d n n.g n.cap (datL d) w2.heap.size 0 2 [⟨2, 3, 8⟩, ⟨0, 1, 0⟩] 768 8 832 _ _ _ (List.replicate 16 0) _ rfl w3 hL3 (by omega) ⟨fun j v hv => by rw [Nat.zero_add]; exact cell_l xp j hv⟩ (by omega) (by decide) (by omega) (by decide) (by omega) (by omega) (by omega) (by decide)).mono ?_
    rintro e w4 ⟨rfl, ho4, hL4⟩
    have k4 : Below w.heap.size w w4 := k3.trans (ho4.below (by omega) hL3.fresh)
    have yp := ho4.kept xp n1
    have yc := ho4.kept xc n2
    have l4 := ho4.size
    obtain ⟨D1, hD1⟩ : ∃ D1, D1 = putL (datL d) ((832 : Int) - 768).toNat (applyL (readL (dataQ n.b2 (datL d)) 768 8) [⟨2, 3, 8⟩, ⟨0, 1, 0⟩] (List.replicate 16 0)) := ⟨_, rfl⟩
    rw [← hD1] at hL4
    obtain ⟨bb, thv, hp4⟩ := hL4.lite.head
    have hR : (⟨#[97, 0, 0, 0, 0, 0, 0, 0, 99, 100, 101, 0, 0, 0, 0, 0]⟩ : ByteArray) = ⟨(readL (dataQ n.b2 D1) 832 16).toArray⟩ := by rw [hD1, HD.out.1]; rfl
    have hlD1 : D1.length = 256 := by
      have hd := datL_length d hdl
      have hr : (readL (dataQ n.b2 (datL d)) 768 8).length = (8 : Int).toNat := by
        simp only [readL, List.length_take, List.length_drop]
        show min 8 ((datL d).length - 0) = 8
        omega
      have ha := applyL_length hr [⟨2, 3, 8⟩, ⟨0, 1, 0⟩] (List.replicate 16 0) (by decide)
      rw [hD1, putL_len _ _ _ (by rw [ha, hd]; decide)]
      exact hd
    have H4 := Lib.hid (And.intro k4 (And.intro hL4 (And.intro yp (And.intro hD1 (And.intro hp4 (And.intro hR yc))))))
    clear kV vL vp xp xc hL3 k3 n1 n2 ho4 hL4 k4 yp yc hD1 vc hp4 hR
    have lwp : n.p < w4.heap.size := lt_of_block H4.out.2.2.2.2.1
    go_upto_region 8 with (first
      | (go_at_call 9; refine (pspace n.p n.s bb n.l thv _ H4.out.2.2.2.2.1).mono ?_; rintro e wx ⟨rfl, rfl⟩)
      | (go_at_call 11
         refine (lab_read w.heap.size B d n n.g n.cap D1 832 16 _ H4.out.2.1 (by omega) (by omega) (by omega)).mono ?_
         rintro e w5 ⟨hb5, rfl⟩
         rw [← H4.out.2.2.2.2.2.1]
         have yc := (hb5.block _ (lt_of_block H4.out.2.2.2.2.2.2)).trans H4.out.2.2.2.2.2.2
         have c4 := cell_in yc 4 rfl
         have f4 := free_in yc 4
         have l5 := hb5.size
         have H5 := Lib.hid (And.intro hb5 yc)
         clear hb5 yc))
    obtain ⟨hb5, uc⟩ := H5.out
    have lp2 := lt_of_block H4.out.2.2.1
    have uc2 : (w5.setCell ⟨w2.heap.size + 1, 4, none⟩ (.int .i64 64)).heap[w2.heap.size + 1]? = some (.cells (convC ⟨#[]⟩ ⟨#[]⟩ ⟨#[]⟩ (.slice (some ⟨w2.heap.size, 0, none⟩) 2 2) 64) 58 (0, 0)) := block_set uc 4 _
    have uo : Only (· = w2.heap.size + 1) w4 (w5.setCell ⟨w2.heap.size + 1, 4, none⟩ (.int .i64 64)) := (Only.of_below hb5).setCell _ _ (.inl rfl)
    generalize hU : w5.setCell ⟨w2.heap.size + 1, 4, none⟩ (.int .i64 64) = U at *
    have xc := (hb5.block _ (lt_of_block H4.out.2.2.2.2.2.2)).trans H4.out.2.2.2.2.2.2
    have HU := Lib.hid (And.intro uo hU)
    have lU := uo.size
    clear hb5 uc uo hU xc
    refine wp_region_facts [.val (.pointer (some ⟨n.p, 0, none⟩)), .val (.agg #[.int .i64 768, .int .i64 8]), .val (.agg (convC ⟨#[]⟩ ⟨#[]⟩ ⟨#[]⟩ (.slice (some ⟨w2.heap.size, 0, none⟩) 2 2) 64)), .blk (fun b => .slice (some ⟨b, 0, none⟩) 16 16) (.cells (byteCells (List.replicate 16 0)).toArray 5 (0, 0)), .val (.string ⟨(List.replicate 16 0).toArray⟩)] (by kernel_rfl) (by kernel_rfl) ?_ ?_
    · simp only [stepsAll, List.take, List.length]
      refine ⟨?_, ?_, ?_, ?_, ?_, ?_⟩
      all_goals first | trivial | (intro a wx hb hf hd)
      all_goals have hf1 : a.tmps[(1 : Nat)]?.getD undef = .pointer (some ⟨n.p, 0, none⟩) := (hf 1 (by decide +kernel)).trans rfl
      all_goals have hf3 : a.tmps[(3 : Nat)]?.getD undef = .pointer (some ⟨(w2.heap.size + 1), 0, none⟩) := (hf 3 (by decide +kernel)).trans rfl
      · exact grow_tmp _ rfl ⟨hf1, fun h => by cases h⟩
      · exact grow_value (v := .agg #[.int .i64 768, .int .i64 8]) (by simp [execOp, go_sem]) (Below.refl _ _) ⟨rfl, fun h => by cases h⟩
      · exact grow_load_row 3 58 rfl (w2.heap.size + 1) hf3 _ _ _ _ ((hb.block _ (lt_of_block uc2)).trans uc2) Tryz.underlying58 rfl (by kernel_rfl) ⟨rfl, fun h => by cases h⟩
      · refine grow_value (v := .slice (some ⟨wx.heap.size, 0, none⟩) 16 16) (w' := wx.alloc (.cells (byteCells (List.replicate 16 0)).toArray 5)) ?_ ((Below.refl _ _).alloc (Nat.le_refl _) _) ⟨⟨_, rfl, heap_alloc_new _ _⟩, fun _ b hbk => by simp [blkOf] at hbk; subst hbk; simp⟩
        have hm := mk_bytes 16 (by omega) wx
        simp [execOp, Act.eval]
        exact congrArg (fun r => Result.andThen r _) hm
      · obtain ⟨b, hb44, hblk⟩ : ∃ b, a.tmps[(44 : Nat)]?.getD undef = .slice (some ⟨b, 0, none⟩) 16 16 ∧ wx.heap[b]? = some (.cells (byteCells (List.replicate 16 0)).toArray 5 (0, 0)) := hd 3 (by simp) (by kernel_rfl)
        exact grow_value (conv_new hblk 44 _ _ rfl hb44) (Below.refl _ _) ⟨rfl, fun h => by cases h⟩
    · intro fw w6 hb6 hs hn hne
      have g41 : fw 41 = .pointer (some ⟨n.p, 0, none⟩) := hs 0 (by simp)
      have g42 : fw 42 = .agg #[.int .i64 768, .int .i64 8] := hs 1 (by simp)
      have g43 : fw 43 = .agg (convC ⟨#[]⟩ ⟨#[]⟩ ⟨#[]⟩ (.slice (some ⟨w2.heap.size, 0, none⟩) 2 2) 64) := hs 2 (by simp)
      have g45 : fw 45 = .string ⟨(List.replicate 16 0).toArray⟩ := hs 4 (by simp)
      rw [show (List.range (List.length _)).map (dstOf _) = [41, 42, 43, 44, 45] from by kernel_rfl]
      simp only [actOf, List.foldl, Act.put, List.drop, List.length, g41, g42, g43, g45, List.setIfInBounds_toArray, List.set_cons_zero, List.set_cons_succ]
      clear hs hn hne g41 g42 g43 g45
      have H6 := Lib.hid hb6
      have l6 := hb6.size
      clear hb6
      go_wp2_with fail
      go_at_call 12
      obtain ⟨k4, hL4, yp, hD1, hp4, hR, yc⟩ := H4.out
      have np := hL4.lite.off hL4.space
      have n2 := hL4.space.not_cells yc (by decide) (by decide) (by decide)
      have q1 := block_ne yc hp4 (by decide)
      have hLU : LabProc w.heap.size B d U n n.g n.cap D1 := by
        obtain ⟨cur, hcm⟩ := ownsRow_block hL4.lite.mods n.gm rfl
        obtain ⟨_, _, _, _, hcl⟩ := hL4.lite.load
        refine ⟨hL4.lite.kept HU.out.1 ?_ ?_ ?_, hL4.space.kept HU.out.1 ?_, hL4.fresh⟩
        · exact fun h => block_ne yc hp4 (by decide) h.symm
        · exact fun h => block_ne yc hcl (by decide) h.symm
        · exact fun h => block_ne yc hcm (by decide) h.symm
        · intro x hx h
          subst h
          exact n2 hx
      have hL6 := hLU.below H6.out
      have kU : Below w.heap.size w U := k4.trans (HU.out.1.below (by omega) (fun k h => by subst h; omega))
      have k6 := kU.trans (H6.out.mono (by omega))
      have xp := (H6.out.block _ (by omega)).trans (HU.out.1.kept yp (by show ¬ _ = _; omega))
      refine (lab_run_fail w.heap.size B d n n.g n.cap D1 hlD1 w2.heap.size 0 2 [⟨2, 3, 8⟩, ⟨0, 1, 0⟩] 8 832 _ _ _ (List.replicate 16 0) _ rfl w6 hL6 (by omega) (HF.out.below k6) HF.out.pos ⟨fun j v hv => by rw [Nat.zero_add]; exact cell_l xp j hv⟩ (by omega) (by decide) (by omega) (by decide) (by omega) (by omega) (by decide) (by omega) (by decide) ?_).mono ?_
      · refine applyL_length (n0 := 8) ?_ _ _ (by decide)
        simp only [readL, List.length_take, List.length_drop]
        show min 8 (D1.length - 0) = 8
        omega
      rintro e w7 ⟨rfl, ho7, g', cap', hL7⟩
      have k7 := k6.trans (ho7.below (by omega) hL6.fresh)
      have l7 := ho7.size
      obtain ⟨bb', thv', hp7⟩ := hL7.lite.head
      have H7 := Lib.hid (And.intro k7 (And.intro hL7 (And.intro hp7 hR)))
      clear k4 hL4 yp hD1 hp4 hR yc np n2 q1 hLU hL6 kU k6 xp ho7 hL7 hp7 k7 uc2
      have lwp7 : n.p < w7.heap.size := lt_of_block H7.out.2.2.1
      go_upto_region 10 with (first
        | (go_at_call 9; refine (pspace n.p n.s bb' n.l thv' _ H7.out.2.2.1).mono ?_; rintro e wx ⟨rfl, rfl⟩)
        | (go_at_call 11
           refine (lab_read w.heap.size B d n g' cap' D1 832 16 _ H7.out.2.1 (by omega) (by omega) (by omega)).mono ?_
           rintro e w8 ⟨hb8, rfl⟩
           rw [← H7.out.2.2.2]
           have l8 := hb8.size
           have H8 := Lib.hid hb8
           clear hb8))
      have H9 := Lib.hid (And.intro ((H7.out.1).trans (H8.out.mono H7.out.1.size)) (H7.out.2.1.lite.below H8.out))
      go_wp2_with fail
      go_at_call 12
      refine (crun_m1 B n.p n.s n.l n.gm n.cm w8 H9.out.2).mono ?_
      rintro e w9 ⟨rfl, hb9⟩
      have l9 := hb9.size
      have H10 := Lib.hid (And.intro (H9.out.1.trans (hb9.mono H9.out.1.size)) (H9.out.2.below hb9))
      clear hb9
      go_wp2_with fail
      go_at_call 12
      have zB : Below w9.heap.size w9 (w9.alloc (.cells #[.int .i64 0, .int .i64 1, .int .i64 0] 73)) := (Below.refl _ _).alloc (Nat.le_refl _) _
      have zp : (w9.alloc (.cells #[.int .i64 0, .int .i64 1, .int .i64 0] 73)).heap[w9.heap.size]? = some (.cells (([⟨0, 1, 0⟩] : List Pc).flatMap pcCells).toArray 73 (0, 0)) := heap_alloc_new _ _
      refine (crun_bad B n.p n.s n.l n.gm n.cm w9.heap.size 0 1 [⟨0, 1, 0⟩] 5 0 832 _ _ _ (-1) _ _ (H10.out.2.below zB) ⟨fun j v hv => by rw [Nat.zero_add]; exact cell_l zp j hv⟩ (lt_of_block zp) (by decide) (by omega) (by omega) (by decide) (by decide)).mono ?_
      rintro e w10 ⟨rfl, hb10⟩
      have H11 := Lib.hid (H10.out.1.trans ((zB.trans (hb10.mono zB.size)).mono H10.out.1.size))
      clear zB zp hb10
      go_wp2
      go_ret
      exact ⟨rfl, H11.out⟩
end Go.Proofs.YtkbilipgidcgeaaGreatDoor

namespace Go.Proofs.YtkbilipgidcgeaaGreatDoor
open Go.RowKit
attribute [local go_sem] ext_cell ext_frozen
attribute [local irreducible] labCells modC threadC

/-- The names of a process's blocks. -/
structure QN where
  p : Nat
  s : Nat
  l : Nat
  gm : Nat
  cm : Nat
  g : Nat
  cap : Nat
  b1 : Nat
  c1 : Nat
  b2 : Nat
  c2 : Nat
  b3 : Nat
  c3 : Nat

/-- Its parts. -/
def labQ (d : List UInt8) (n : QN) (D : List UInt8) : List Part := [(codeP (labL d) n.b1).moved n.b1 n.c1, (dataQ n.b2 D).moved n.b2 n.c2, (stackP n.b3).moved n.b3 n.c3]

theorem areas_labQ (d : List UInt8) (n : QN) (D : List UInt8) : AreasOk (labQ d n D) := by
  refine areas_like (areas_lab3 d D n.b1 n.b2 n.b3) rfl (fun i hi hi' => ?_)
  have : i = 0 ∨ i = 1 ∨ i = 2 := by simp [labP] at hi'; omega
  rcases this with rfl | rfl | rfl <;> exact ⟨rfl, rfl⟩

theorem last_labQ {d D : List UInt8} {n : QN} {a : Int} (h1 : 768 ≤ a) (h2 : a < 1280) : LastAt (labQ d n D) a 1 where
  lt := by simp [labQ]
  le := by show (768 : Int) ≤ a; omega
  next := by
    intro j hj h0
    have : j = 2 := by simp [labQ] at hj; omega
    subst this
    show a < (1280 : Int); omega

abbrev QN.pv (n : QN) : Value := .slice (some ⟨n.g, 0, none⟩) 3 n.cap

/-- A process of the law. -/
structure LabQ (h0 : Nat) (B : ByteArray) (d : List UInt8) (w : World) (n : QN) (D : List UInt8) : Prop where
  lite : ProcLite B w n.p n.s n.l n.gm n.cm
  space : SpaceAt w n.s n.pv (labQ d n D)
  fresh : ∀ x, spaceFoot n.s n.pv (labQ d n D) x → h0 ≤ x

theorem foot_labQ {d D D' : List UInt8} {n : QN} {x : Nat} (h : spaceFoot n.s n.pv (labQ d n D) x) : spaceFoot n.s n.pv (labQ d n D') x := by
  rcases h with h | h | ⟨p, hp, h⟩
  · exact .inl h
  · exact .inr (.inl h)
  · simp only [labQ, List.mem_cons, List.not_mem_nil, or_false] at hp
    rcases hp with rfl | rfl | rfl
    · exact .inr (.inr ⟨_, .head _, h⟩)
    · exact .inr (.inr ⟨_, .tail _ (.head _), h⟩)
    · exact .inr (.inr ⟨_, .tail _ (.tail _ (.head _)), h⟩)

theorem LabQ.below {h0 : Nat} {B : ByteArray} {d : List UInt8} {w w' : World} {n : QN} {D : List UInt8} (h : LabQ h0 B d w n D) (hb : Below w.heap.size w w') : LabQ h0 B d w' n D :=
  ⟨h.lite.below hb, h.space.below hb, h.fresh⟩

/-- The pieces as the function is given them. -/
def PcsV (h0 : Nat) (w : World) (v : Value) (pcs : List Pc) : Prop := (v = .slice none 0 0 ∧ pcs = []) ∨ ∃ g o cap, v = .slice (some ⟨g, o, none⟩) pcs.length cap ∧ g < h0 ∧ PcsAt w g o pcs

theorem PcsV.below {h0 : Nat} {w w' : World} {v : Value} {pcs : List Pc} (h : PcsV h0 w v pcs) (hb : Below h0 w w') : PcsV h0 w' v pcs := by
  rcases h with h | ⟨g, o, cap, h1, h2, h3⟩
  · exact .inl h
  · exact .inr ⟨g, o, cap, h1, h2, ⟨fun j v hv => (hb.cell (p := ⟨g, o + j, none⟩) h2).trans (h3.at_ j v hv)⟩⟩

/-- The data behind a conversion. -/
def convD (D bs : List UInt8) (pcs : List Pc) : List UInt8 := putL D 128 (applyL (D.take 128) pcs bs)
def okL (pcs : List Pc) (bs : List UInt8) : Bool := pcs.all (withinB · 128 bs.length)

theorem run_labQ (h0 : Nat) (B : ByteArray) (d : List UInt8) (n : QN) (D : List UInt8) (v : Value) (pcs : List Pc) (bs : List UInt8) (bA : ByteArray) (hbA : bA = ⟨bs.toArray⟩) (w : World) (hL : LabQ h0 B d w n D) (hw : h0 ≤ w.heap.size) (hv : PcsV h0 w v pcs) (hlen : pcs.length ≤ 100) (h5 : bs.length ≤ 128) :
    Calls Tryz.prog 12 #[.pointer (some ⟨n.p, 0, none⟩), .int .i64 0, .agg #[.int .i64 768, .int .i64 128], .int .i64 896, .agg #[.string ⟨#[]⟩, .string ⟨#[]⟩, .string ⟨#[]⟩, v, .int .i64 (-1)], .string bA] w fun e w' => e = .returned (.int .i64 (if okL pcs bs = true then 0 else 1)) ∧
      Below h0 w w' ∧ Only (spaceFoot n.s n.pv (labQ d n D)) w w' ∧ LabQ h0 B d w' n (if okL pcs bs = true then convD D bs pcs else D) := by
  obtain ⟨a, b, c⟩ := hL.lite.off hL.space
  have fin : ∀ (X : List UInt8) (w' : World), Only (· = n.b2) w w' → SpaceAt w' n.s n.pv (labQ d n X) → Below h0 w w' ∧ Only (spaceFoot n.s n.pv (labQ d n D)) w w' ∧ LabQ h0 B d w' n X := by
    intro X w' ho hs
    have ho' : Only (spaceFoot n.s n.pv (labQ d n D)) w w' := ho.mono fun x _ hx => .inr (.inr ⟨(dataQ n.b2 D).moved n.b2 n.c2, .tail _ (.head _), hx.symm⟩)
    exact ⟨ho'.below hw hL.fresh, ho', hL.lite.kept ho' a b c, hs, fun x hx => hL.fresh x (foot_labQ hx)⟩
  rcases hv with ⟨rfl, rfl⟩ | ⟨g, o, cap, rfl, hg, hp⟩
  · refine (crun_nil B n.p n.s n.l n.gm n.cm 768 128 896 ⟨#[]⟩ ⟨#[]⟩ ⟨#[]⟩ bs bA hbA _ _ 1 w hL.lite (by omega) (by omega) (by omega) (areas_labQ d n D) hL.space (last_labQ (by omega) (by omega)) (by show (768 : Int) - 768 + 128 ≤ 256; omega) (last_labQ (by omega) (by omega)) (by show (896 : Int) - 768 + _ ≤ 256; omega)).mono ?_
    rintro e w' ⟨rfl, ho, hs⟩
    exact ⟨rfl, fin _ w' ho hs⟩
  · cases hk : okL pcs bs with
    | true =>
      refine (crun_ok B n.p n.s n.l n.gm n.cm g o cap pcs 768 128 896 ⟨#[]⟩ ⟨#[]⟩ ⟨#[]⟩ bs bA hbA _ _ 1 w hL.lite hp (by omega) hlen (by omega) (by omega) (by omega) hk (areas_labQ d n D) hL.space (last_labQ (by omega) (by omega)) (by show (768 : Int) - 768 + 128 ≤ 256; omega) (last_labQ (by omega) (by omega)) (by show (896 : Int) - 768 + _ ≤ 256; omega)).mono ?_
      rintro e w' ⟨rfl, ho, hs⟩
      exact ⟨rfl, fin _ w' ho hs⟩
    | false =>
      have hsz : bA.size = bs.length := by subst hbA; simp [ByteArray.size]
      refine (crun_bad B n.p n.s n.l n.gm n.cm g o cap pcs 768 128 896 ⟨#[]⟩ ⟨#[]⟩ ⟨#[]⟩ (-1) bA w hL.lite hp (by omega) hlen (by omega) (by omega) (by omega) (by rw [hsz]; exact hk)).mono ?_
      rintro e w' ⟨rfl, hb⟩
      exact ⟨rfl, hb.mono hw, Only.of_below hb, hL.below hb⟩

theorem convD_take (D bs : List UInt8) (pcs : List Pc) (h : 128 ≤ D.length) : (convD D bs pcs).take 128 = D.take 128 := by
  unfold convD putL
  rw [List.append_assoc, List.take_append_of_le_length (by simp; omega)]
  exact List.take_of_length_le (by simp; omega)

theorem take_len {D : List UInt8} (h : 128 ≤ D.length) : (D.take 128).length = (128 : Int).toNat := by simp; omega

/-- The second conversion alone leads to the same. -/
theorem convD_twice (D bs : List UInt8) (l more : List Pc) (hD : D.length = 256) (hb : bs.length ≤ 128) (h1 : okL l bs = true) (h2 : okL more bs = true) : convD (convD D bs l) bs more = convD D bs more := by
  have e1 := applyL_length (take_len (by omega : 128 ≤ D.length)) l bs h1
  have e2 := applyL_length (take_len (by omega : 128 ≤ D.length)) more bs h2
  have ht := convD_take D bs l (by omega)
  unfold convD at ht ⊢
  rw [ht]
  generalize applyL (D.take 128) l bs = Y at *
  generalize applyL (D.take 128) more bs = X at *
  rw [show putL (putL D 128 Y) 128 X = ((putL D 128 Y).take 128) ++ X ++ (putL D 128 Y).drop (128 + X.length) from rfl, ht]
  unfold putL
  congr 1
  rw [e2, ← e1, List.append_assoc, List.drop_append, List.drop_append]
  have : (D.take 128).length = 128 := by simp; omega
  rw [this, List.drop_eq_nil_of_le (by simp; omega), List.drop_eq_nil_of_le (by omega)]
  simp

theorem same_labQ {h0 : Nat} {B B' : ByteArray} {d D : List UInt8} {n m : QN} {w : World} (hp : LabQ h0 B d w n D) (hq : LabQ h0 B' d w m D) :
    Calls Tryz.prog 19 #[.pointer (some ⟨n.p, 0, none⟩), .pointer (some ⟨m.p, 0, none⟩), .int .i64 0, .int .i64 0] w fun e w' => e = .returned (.bool true) ∧ Below w.heap.size w w' := by
  obtain ⟨bb, th, h1⟩ := hp.lite.head
  obtain ⟨bb2, th2, h2⟩ := hq.lite.head
  refine lsame n.p n.s bb n.l m.p m.s bb2 m.l n.g n.cap m.g m.cap th th2 (labQ d n D) (labQ d m D) w h1 h2 (areas_labQ _ _ _) (areas_labQ _ _ _) hp.space hq.space ⟨rfl, fun i hi hi' => ?_⟩ (by simp [labQ]) (fun i hi hi' => ?_)
  · have : i = 0 ∨ i = 1 ∨ i = 2 := by simp [labQ] at hi; omega
    rcases this with rfl | rfl | rfl <;> exact ⟨rfl, rfl, rfl, rfl, rfl⟩
  · have : i = 0 ∨ i = 1 ∨ i = 2 := by simp [labQ] at hi; omega
    rcases this with rfl | rfl | rfl <;> rfl
end Go.Proofs.YtkbilipgidcgeaaGreatDoor
