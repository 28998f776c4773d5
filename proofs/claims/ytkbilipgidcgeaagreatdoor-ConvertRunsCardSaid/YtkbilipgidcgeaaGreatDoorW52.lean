/- linchpinlaw39.ConvertRuns. The row of linchpinlaw39.ConvertRuns. The closed facts of the row. -/
import Derived.Test.YtkbilipgidcgeaaGreatDoorW51
import Derived.Test.YtkbilipgidcgeaaGreatDoorW43
import Derived.Test.YtkbilipgidcgeaaGreatDoorW44
import Derived.Test.YtkbilipgidcgeaaGreatDoorRows
import Derived.ProofKit
import Derived.LaidMore
import Derived.JoinedOf
set_option linter.unusedVariables false
set_option linter.unusedSimpArgs false
namespace Go.Proofs.YtkbilipgidcgeaaGreatDoor
open Go.RowKit
attribute [local go_sem] ext_cell ext_frozen
attribute [local irreducible] labCells modC threadC

set_option maxRecDepth 100000 in
set_option maxHeartbeats 4000000 in
theorem runs_ok (A S : ByteArray) (d bs : List UInt8) (hA : A = ⟨d.toArray⟩) (hS : S = ⟨bs.toArray⟩) (b1 : Option Addr) (k1 : Nat) (l : List Pc) (w : World) (hf : Forms w)
    (hv1 : PcsV w.heap.size w (.slice b1 l.length k1) l) :
    Calls Tryz.prog 3 #[.string A, .string S, .slice b1 l.length k1] w fun e w' => e = .returned (.bool true) ∧ Below w.heap.size w w' := by
  have hAs : A.size = d.length := by subst hA; simp [ByteArray.size]
  have hSs : S.size = bs.length := by subst hS; simp [ByteArray.size]
  have hpos : 0 < w.heap.size := hf.pos
  have HV := Lib.hid (And.intro hv1 (And.intro hA (And.intro hS (And.intro hf (And.intro hAs hSs)))))
  clear hA hS hf hv1 hAs hSs
  go_enter Tryz.func3, Tryz.ntmps3
  go_wp2_with fail
  go_at_call 6
  refine (small_ok w HV.out.2.2.2.1).mono ?_
  rintro e w1 ⟨rfl, hb1⟩
  have H1 := Lib.hid hb1
  have l1 := hb1.size
  clear hb1
  by_cases q1 : (128 : Int) < A.size
  · have q1' : (128 : Nat) < A.size := by omega
    go_wp2
    all_goals first | (exfalso; omega) | (go_ret; exact ⟨rfl, H1.out⟩)
  by_cases q2 : (128 : Int) < S.size
  · have q2' : (128 : Nat) < S.size := by omega
    go_wp2
    all_goals first | (exfalso; omega) | (go_ret; exact ⟨rfl, H1.out⟩)
  by_cases q3 : (S.size : Int) < 16
  · have q3' : S.size < 16 := by omega
    go_wp2
    all_goals first | (exfalso; omega) | (go_ret; exact ⟨rfl, H1.out⟩)
  by_cases q4 : (20 : Int) < l.length
  · have q4' : (20 : Nat) < l.length := by omega
    go_wp2
    all_goals first | (exfalso; omega) | (go_ret; exact ⟨rfl, H1.out⟩)
  have q1' : ¬ (128 : Nat) < A.size := by omega
  have q2' : ¬ (128 : Nat) < S.size := by omega
  have q3' : ¬ S.size < 16 := by omega
  have q4' : ¬ (20 : Nat) < l.length := by omega
  go_upto_region 4 with fail
  all_goals first | (exfalso; omega) | skip
  have hdl : d.length ≤ 128 := by have := HV.out.2.2.2.2.1; omega
  have hbl : bs.length ≤ 128 := by have := HV.out.2.2.2.2.2; omega
  go_wp2_with fail
  go_at_call 8
  rw [HV.out.2.1]
  refine (lab_any d _ (by omega) (HV.out.2.2.2.1.below H1.out)).mono ?_
  rintro e w2 ⟨hb2, rfl⟩
  obtain ⟨B, hB⟩ : ∃ B, B = (⟨(labL d).toArray⟩ : ByteArray) := ⟨_, rfl⟩
  rw [← hB]
  have l2 := hb2.size
  have H2 := Lib.hid (And.intro (H1.out.trans (hb2.mono l1)) hB)
  clear hb2 hB
  go_wp2_with (refine wpList_run rfl (buildSlice_lab 46 B _ _ _ rfl rfl) ?_)
  go_at_call 7
  refine (pnew_fresh w2.heap.size (labL d) B H2.out.2 (labL_length _ (by omega)) _ (heap_alloc_new _ _)).mono ?_
  rintro e w3 ⟨n, rfl, hb3, hP, hsp, hfr⟩
  have hps : [codeP (labL d) n.b1, dataP (labL d) n.b2, stackP n.b3] = labP d n.b1 n.b2 n.b3 (datL d) := by
    rw [dataP_eq _ (labL_length _ (by omega)), labL_data]; rfl
  rw [hps] at hsp hfr
  have kB : Below w.heap.size w w3 := H2.out.1.trans ((((Below.refl w2.heap.size w2).alloc (Nat.le_refl _) _).trans (hb3.mono (by simp))).mono (by omega))
  have l3 : w2.heap.size ≤ w3.heap.size := by have := hb3.size; simp at this; omega
  have hD := datL_length d (by omega)
  obtain ⟨D, hDD⟩ : ∃ D, D = datL d := ⟨_, rfl⟩
  rw [← hDD] at hsp hfr hD
  have hL3 : LabProc w.heap.size B d w3 n n.g n.cap D := ⟨hP.lite, hsp, fun x hx => Nat.le_trans (by simp; omega) (hfr x hx)⟩
  have H3 := Lib.hid (And.intro kB (And.intro hL3 hD))
  clear hb3 hP hsp hfr hps kB hL3 hD hDD
  go_upto_region 8 with ((with_reducible refine at_store_law ?_); refine wpList_store_row rfl _ _ _ rfl _ _ rfl rfl _ _ (by (repeat (first | assumption | exact heap_alloc_new _ _ | refine block_old ?_ | refine block_drew ?_ | apply setRow_heap | (refine (setRow_other _ _ _ _ ?_).trans ?_; omega)))) (by kernel_rfl) (by rfl) (by simp [Value.oneCell']) ?_; (try simp only [World.setRow_alloc_new]))
  refine name_world fun V hV => ?_
  have vB : Below w3.heap.size w3 V := by rw [← hV]; go_grown
  have vs : V.heap[w3.heap.size]? = some (.cells [.int .i64 768, .int .i64 128].toArray 49 (0, 0)) := by rw [← hV]; exact heap_alloc_new _ _
  clear hV
  have kV : Below w.heap.size w V := H3.out.1.trans (vB.mono (by omega))
  have lV := vB.size
  have vL := H3.out.2.1.below vB
  have HW := Lib.hid (And.intro kV (And.intro vL vs))
  clear vB vs kV vL
  have lwV : w.heap.size ≤ V.heap.size := by omega
  -- the words
  go_wp2_with fail
  go_at_call 9
  refine (lab_space _ B d n _ _ D V HW.out.2.1).mono ?_
  rintro e w4 ⟨rfl, rfl⟩
  go_wp2_with fail
  go_at_call 10
  refine (lab_load _ B d n _ _ D 768 w4 HW.out.2.1 (by omega) (by omega) (by decide)).mono ?_
  rintro e w5 ⟨hb5, rfl⟩
  obtain ⟨x, hx⟩ : ∃ x, x = sgn64 (leN (readL (dataQ n.b2 D) 768 8)) := ⟨_, rfl⟩
  rw [← hx]
  have l5 := hb5.size
  have H5 := Lib.hid (And.intro (HW.out.1.trans (hb5.mono lwV)) (And.intro (HW.out.2.1.below hb5) (And.intro ((hb5.block _ (lt_of_block HW.out.2.2)).trans HW.out.2.2) hx)))
  clear hb5 hx
  go_wp2_with fail
  go_at_call 9
  refine (lab_space _ B d n _ _ D w5 H5.out.2.1).mono ?_
  rintro e w6 ⟨rfl, rfl⟩
  go_wp2_with fail
  go_at_call 10
  refine (lab_load _ B d n _ _ D 776 w6 H5.out.2.1 (by omega) (by omega) (by decide)).mono ?_
  rintro e w7 ⟨hb7, rfl⟩
  obtain ⟨y, hy⟩ : ∃ y, y = sgn64 (leN (readL (dataQ n.b2 D) 776 8)) := ⟨_, rfl⟩
  rw [← hy]
  have l7 := hb7.size
  have H7 := Lib.hid (And.intro (H5.out.1.trans (hb7.mono (by omega))) (And.intro (H5.out.2.1.below hb7) (And.intro ((hb7.block _ (lt_of_block H5.out.2.2.1)).trans H5.out.2.2.1) hy)))
  clear hb7 hy
  go_wp2_with fail
  go_at_call 9
  refine (lab_space _ B d n _ _ D w7 H7.out.2.1).mono ?_
  rintro e w8 ⟨rfl, rfl⟩
  go_wp2_with fail
  go_at_call 11
  refine (lab_read _ B d n _ _ D 896 128 w8 H7.out.2.1 (by omega) (by omega) (by omega)).mono ?_
  rintro e w9 ⟨hb9, rfl⟩
  obtain ⟨Z, hZ⟩ : ∃ Z, Z = (⟨(readL (dataQ n.b2 D) 896 128).toArray⟩ : ByteArray) := ⟨_, rfl⟩
  rw [← hZ]
  have l9 := hb9.size
  have H9 := Lib.hid (And.intro (H7.out.1.trans (hb9.mono (by omega))) (And.intro (H7.out.2.1.below hb9) (And.intro ((hb9.block _ (lt_of_block H7.out.2.2.1)).trans H7.out.2.2.1) hZ)))
  clear hb9 hZ
  have lw9 : w.heap.size ≤ w9.heap.size := by omega
  have s0 := cell_in H9.out.2.2.1 0 rfl
  have s1 := cell_in H9.out.2.2.1 1 rfl
  cases hk : okL l bs with
  | false =>
    have HK := Lib.hid hk
    clear hk
    go_wp2_with fail
    go_at_call 12
    refine (lab_run_bad _ B d n _ _ D (.slice b1 l.length k1) l bs S HV.out.2.2.1 w9 H9.out.2.1 lw9 (HV.out.1.below H9.out.1) (by omega) HK.out hbl 64).mono ?_
    rintro e w10 ⟨rfl, hb10⟩
    have l10 := hb10.size
    have H10 := Lib.hid (And.intro (H9.out.1.trans (hb10.mono lw9)) (And.intro (H9.out.2.1.below hb10) ((hb10.block _ (lt_of_block H9.out.2.2.1)).trans H9.out.2.2.1)))
    clear hb10 s0 s1
    have s0 := cell_in H10.out.2.2 0 rfl
    have s1 := cell_in H10.out.2.2 1 rfl
    go_wp2_with fail
    go_at_call 12
    refine (lab_run_bad _ B d n _ _ D (.slice b1 l.length k1) l bs S HV.out.2.2.1 w10 H10.out.2.1 (by omega) (HV.out.1.below H10.out.1) (by omega) HK.out hbl 96).mono ?_
    rintro e w11 ⟨rfl, hb11⟩
    have l11 := hb11.size
    have H11 := Lib.hid (And.intro (H10.out.1.trans (hb11.mono (by omega))) (And.intro (H10.out.2.1.below hb11) ((hb11.block _ (lt_of_block H10.out.2.2)).trans H10.out.2.2)))
    clear hb11 s0 s1
    go_wp2_with fail
    go_at_call 9
    refine (lab_space _ B d n _ _ D w11 H11.out.2.1).mono ?_
    rintro e w12 ⟨rfl, rfl⟩
    go_wp2_with fail
    go_at_call 11
    refine (lab_read _ B d n _ _ D 896 128 w12 H11.out.2.1 (by omega) (by omega) (by omega)).mono ?_
    rintro e w13 ⟨hb13, rfl⟩
    rw [← H9.out.2.2.2]
    have l13 := hb13.size
    have H13 := Lib.hid (And.intro (H11.out.1.trans (hb13.mono (by omega))) (And.intro (H11.out.2.1.below hb13) ((hb13.block _ (lt_of_block H11.out.2.2)).trans H11.out.2.2)))
    clear hb13
    have s0 := cell_in H13.out.2.2 0 rfl
    have s1 := cell_in H13.out.2.2 1 rfl
    go_wp2_with fail
    go_at_call 12
    refine (lab_run_bad _ B d n _ _ D (.slice b1 l.length k1) l bs S HV.out.2.2.1 w13 H13.out.2.1 (by omega) (HV.out.1.below H13.out.1) (by omega) HK.out hbl 8).mono ?_
    rintro e w14 ⟨rfl, hb14⟩
    have l14 := hb14.size
    have H14 := Lib.hid (And.intro (H13.out.1.trans (hb14.mono (by omega))) (H13.out.2.1.below hb14))
    clear hb14 s0 s1
    go_wp2_with fail
    go_at_call 9
    refine (lab_space _ B d n _ _ D w14 H14.out.2).mono ?_
    rintro e w15 ⟨rfl, rfl⟩
    go_wp2_with fail
    go_at_call 10
    refine (lab_load _ B d n _ _ D 904 w15 H14.out.2 (by omega) (by omega) (by decide)).mono ?_
    rintro e w16 ⟨hb16, rfl⟩
    have H16 := Lib.hid (H14.out.1.trans (hb16.mono (by omega)))
    obtain ⟨z, hz⟩ : ∃ z, z = sgn64 (leN (readL (dataQ n.b2 D) 904 8)) := ⟨_, rfl⟩
    rw [← hz]
    clear hb16 hz
    go_wp2
    go_ret
    exact ⟨rfl, H16.out⟩
  | true =>
    have HK := Lib.hid hk
    clear hk
    have hf9 : Forms w9 := HV.out.2.2.2.1.below H9.out.1
    have HF9 := Lib.hid hf9
    clear hf9
    go_wp2_with fail
    go_at_call 12
    refine (run64 w.heap.size B d n _ _ D H3.out.2.2 (.slice b1 l.length k1) l bs S HV.out.2.2.1 w9 H9.out.2.1 lw9 HF9.out hpos (HV.out.1.below H9.out.1) (by omega) HK.out hbl).mono ?_
    rintro e w10 ⟨rfl, ho10, g10, c10, hL10⟩
    have hb10 := ho10.below lw9 H9.out.2.1.fresh
    have l10 := ho10.size
    have H10 := Lib.hid (And.intro (H9.out.1.trans hb10) (And.intro hL10 (ho10.kept H9.out.2.2.1 (H9.out.2.1.space.not_cells H9.out.2.2.1 (by decide) (by decide) (by decide)))))
    clear hb10 s0 s1 ho10 hL10
    have s0 := cell_in H10.out.2.2 0 rfl
    have s1 := cell_in H10.out.2.2 1 rfl
    have lw10 : w.heap.size ≤ w10.heap.size := by omega
    go_wp2_with fail
    go_at_call 12
    refine (run96 w.heap.size B d n _ _ D H3.out.2.2 (.slice b1 l.length k1) l bs S HV.out.2.2.1 w10 H10.out.2.1 lw10 (HV.out.2.2.2.1.below H10.out.1) hpos (HV.out.1.below H10.out.1) (by omega) HK.out hbl).mono ?_
    rintro e w11 ⟨rfl, ho11, g11, c11, hL11⟩
    have hb11 := ho11.below lw10 H10.out.2.1.fresh
    have l11 := ho11.size
    have H11 := Lib.hid (And.intro (H10.out.1.trans hb11) (And.intro hL11 (ho11.kept H10.out.2.2 (H10.out.2.1.space.not_cells H10.out.2.2 (by decide) (by decide) (by decide)))))
    clear hb11 s0 s1 ho11 hL11
    have lw11 : w.heap.size ≤ w11.heap.size := by omega
    go_wp2_with fail
    go_at_call 9
    refine (lab_space _ B d n _ _ D w11 H11.out.2.1).mono ?_
    rintro e w12 ⟨rfl, rfl⟩
    go_wp2_with fail
    go_at_call 11
    refine (lab_read _ B d n _ _ D 896 128 w12 H11.out.2.1 (by omega) (by omega) (by omega)).mono ?_
    rintro e w13 ⟨hb13, rfl⟩
    rw [← H9.out.2.2.2]
    have l13 := hb13.size
    have H13 := Lib.hid (And.intro (H11.out.1.trans (hb13.mono (by omega))) (And.intro (H11.out.2.1.below hb13) ((hb13.block _ (lt_of_block H11.out.2.2)).trans H11.out.2.2)))
    clear hb13
    have s0 := cell_in H13.out.2.2 0 rfl
    have s1 := cell_in H13.out.2.2 1 rfl
    have lw13 : w.heap.size ≤ w13.heap.size := by omega
    go_wp2_with fail
    go_at_call 12
    refine (run8 w.heap.size B d n _ _ D H3.out.2.2 (.slice b1 l.length k1) l bs S HV.out.2.2.1 w13 H13.out.2.1 lw13 (HV.out.2.2.2.1.below H13.out.1) hpos (HV.out.1.below H13.out.1) (by omega) HK.out hbl).mono ?_
    rintro e w14 ⟨rfl, ho14, g14, c14, hL14⟩
    rw [← H5.out.2.2.2, ← H7.out.2.2.2] at hL14
    have hb14 := ho14.below lw13 H13.out.2.1.fresh
    have l14 := ho14.size
    have H14 := Lib.hid (And.intro (H13.out.1.trans hb14) hL14)
    clear hb14 s0 s1 ho14 hL14
    go_wp2_with fail
    go_at_call 9
    refine (lab_space _ B d n _ _ _ w14 H14.out.2).mono ?_
    rintro e w15 ⟨rfl, rfl⟩
    go_wp2_with fail
    go_at_call 10
    refine (lab_load _ B d n _ _ _ 904 w15 H14.out.2 (by omega) (by omega) (by decide)).mono ?_
    rintro e w16 ⟨hb16, rfl⟩
    rw [sum_word _ (convD_length D bs l H3.out.2.2 hbl HK.out) n.b2 (x + y)]
    have H16 := Lib.hid (H14.out.1.trans (hb16.mono (by omega)))
    clear hb16
    go_wp2
    go_ret
    exact ⟨rfl, H16.out⟩
end Go.Proofs.YtkbilipgidcgeaaGreatDoor

namespace Go.Proofs.YtkbilipgidcgeaaGreatDoor
open Go.ChangeShapes Go.WideShapes Go.ChangeAt Go.WideElems Go.RowKit

set_option maxRecDepth 100000 in
theorem runs_lifted (os : Os) (started : os.Started) (H : Type) (enc : TypeId × Value → H) :
    ReturnsInHanded {} Tryz.checked os 3 .any (fun w args => (Rows.convertRunsSpec.pre enc Tryz.prog Tryz.f3 [] false w args ∧ laidMetH Tryz.prog Rows.convertRunsRow.laid w) ∧ sizedMet enc Tryz.prog Tryz.f3 (OpenSpec.ofChange Rows.convertRunsSpec) false w args)
      (Rows.convertRunsSpec.post enc Tryz.prog Tryz.f3 false true false false) := by
  refine returnsInHanded_of_change_and (C := Tryz.checked) (X := fun w _ => laidMetH Tryz.prog Rows.convertRunsRow.laid w) (fun _ _ _ hh h => h.of_heap hh) own started (by kernel_rfl) Tryz.func3
    (ChangeSpec.witness_shaped (enc := enc) (C := Tryz.checked) (os := os) (X := fun w _ => laidMetH Tryz.prog Rows.convertRunsRow.laid w) false (World.doorLaid Tryz.prog 4000 os) #[.string ⟨#[]⟩, .string ⟨#[]⟩, .slice none 0 0] 8 rfl (World.shaped_of_RefB (by kernel_rfl) (by kernel_rfl)) (by kernel_rfl) (by kernel_rfl) (by kernel_rfl) (door_met os _)) ?_
  intro W base args ds gs before hval0 hW _ _ hL _
  have hval : ∀ (j : Nat) t v, Tryz.f3.params[j]? = some t → args[j]? = some v → Value.okWide Tryz.prog W .any base t v := hval0
  have hW' := hW
  obtain ⟨p, q, hA0, hV, rfl, hfz, hnd⟩ := hW
  have hA : DataW.TrodAll enc Tryz.prog W 0 (fun _ => true) true Tryz.f3.params.toList args.toList ds p := hA0
  rw [Tryz.params3] at hA hval
  obtain ⟨v0, v1, v2, d0, d1, d2, p0, p1, p2, rfl, rfl, rfl, h0, h1, h2⟩ := trodAll_three hA
  obtain ⟨rfl, rfl⟩ := trodVars_none hV
  obtain ⟨A, rfl⟩ := okWide_string Tryz.underlying9 (hval 0 _ v0 rfl rfl)
  obtain ⟨S, rfl⟩ := okWide_string Tryz.underlying9 (hval 1 _ v1 rfl rfl)
  obtain ⟨b1, l, k1, rfl, hv1⟩ := pcs_of_slice (hval 2 _ v2 rfl rfl) h2
  clear hA0 hval0
  simp only [List.append_nil] at hW'
  have hlt : ∀ x ∈ p0 ++ p1 ++ p2, x.block < W.heap.size := fun x hx => by simpa using hW'.lt x hx
  refine (runs_ok A S A.data.toList S.data.toList (of_list A) (of_list S) b1 k1 l W (forms_of_laid hL) hv1).mono fun e W' ⟨he, hb⟩ => ?_
  subst he
  refine ⟨_, rfl, _, _, _, [], p0 ++ (p1 ++ p2), [], hW', ?_, ?_, rfl, hb.frame _, fun h => by cases h⟩
  · exact trodAll_mk1 (shut_bool Tryz.underlying4 _)
  · exact trodAll_mk3 (Below.trod laidOut (by kernel_rfl) (of_decide_eq_true (by kernel_rfl)) h0 hb (fun x hx => hlt x (by simp [hx])))
      (Below.trod laidOut (by kernel_rfl) (of_decide_eq_true (by kernel_rfl)) h1 hb (fun x hx => hlt x (by simp [hx])))
      (Below.trod laidOut (by kernel_rfl) (of_decide_eq_true (by kernel_rfl)) h2 hb (fun x hx => hlt x (by simp [hx])))

end Go.Proofs.YtkbilipgidcgeaaGreatDoor

namespace Go.Proofs.YtkbilipgidcgeaaGreatDoor
open Go.ChangeShapes Go.WideShapes Go.ChangeAt Go.WideElems Go.RowKit

theorem runs_named : Tryz.pinned.checked.prog.funcNamed Rows.convertRunsRow.func = some 3 := by kernel_rfl
theorem runs_func : Tryz.pinned.checked.prog.funcs[(3 : Nat)]? = some Tryz.f3 := Tryz.func3
theorem runs_inst : Tryz.f3.isInstance Tryz.pinned.checked.prog Rows.convertRunsRow.origin Rows.convertRunsRow.targs := of_decide_eq_true (by kernel_rfl)
theorem runs_wrap : Tryz.f3.isWrapper Tryz.pinned.checked.prog Rows.convertRunsRow.wrapper Rows.convertRunsRow.mainSum := by unfold Func.isWrapper; first | (rw [if_pos (by decide +kernel)]; kernel_rfl) | (rw [if_neg (by decide +kernel)]; exact ⟨rfl, rfl⟩)
end Go.Proofs.YtkbilipgidcgeaaGreatDoor
