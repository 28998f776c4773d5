/- linchpinlaw38.HoldMakes. -/
import Derived.StillTailTactics
import Derived.Test.YtkbilipgidcgeaaGreatDoorH44
set_option linter.unusedVariables false
set_option linter.unusedSimpArgs false
namespace Go.Proofs.YtkbilipgidcgeaaGreatDoor.Tiny
open Go.RowKit Go.ChangeMaps Go.Maps
attribute [local go_sem] ext_cell ext_frozen
attribute [local irreducible] labCells modC threadC

theorem hits_ins (l : List InsR) (h : l.length ≤ 20) (b1 b2 b3 : Nat) (X m : Int) (hm : m = 8 * (l.length : Int)) : (hitsL (tinyP (makesL l) b1 b2 b3 X) 512 m).length = l.length ∧ ∀ i (hi : i < (hitsL (tinyP (makesL l) b1 b2 b3 X) 512 m).length) (hl : i < l.length), (hitsL (tinyP (makesL l) b1 b2 b3 X) 512 m)[i].1 = 512 + 8 * (i : Int) ∧ (hitsL (tinyP (makesL l) b1 b2 b3 X) 512 m)[i].2 = encI l[i] := by
  subst hm
  rw [hits_makes l h]
  refine ⟨by simp, fun i hi hl => ?_⟩
  rw [List.getElem_map, List.getElem_range]
  refine ⟨by simp, ?_⟩
  show ((makesL l).drop (8 * (0 + i))).take 8 = _
  rw [Nat.zero_add]
  exact enc_drop l _ i hl

theorem cell_one_at {w : World} {b : Nat} {v : Value} {t : TypeId} (h : w.heap[b]? = some (.cells [v].toArray t (0, 0))) : ∀ (j : Nat) (u : Value), [v][j]? = some u → w.cell? ((⟨b, 0, none⟩ : Addr).add j) = some u := fun j u hu => by
  rw [addr0]
  exact cell_l h j hu

set_option maxRecDepth 100000 in
set_option maxHeartbeats 4000000 in
theorem makes_ok (b1 : Option Addr) (k1 : Nat) (l : List InsR) (w : World) (hf : Forms w) (hv : InsV w.heap.size w (.slice b1 l.length k1) l) (hl : l.length ≤ 17592186044416) :
    Calls Tryz.prog 4 #[.slice b1 l.length k1] w fun e w' => e = .returned (.bool true) ∧ Below w.heap.size w w' := by
  have HF := Lib.hid hf
  have HV := Lib.hid hv
  clear hf hv
  go_enter Tryz.func4, Tryz.ntmps4
  go_wp2_with fail
  go_at_call 13
  refine (small_ok w HF.out).mono ?_
  rintro e w1 ⟨rfl, hb1⟩
  have H1 := Lib.hid hb1
  have l1 := hb1.size
  clear hb1
  go_wp2_with fail
  go_at_call 14
  refine (tiny_any w1 (HF.out.below H1.out)).mono ?_
  rintro e w2 ⟨hb2, g2, lg2, rfl, hst2⟩
  obtain ⟨B0, hB0⟩ : ∃ B, B = (⟨tinyL.toArray⟩ : ByteArray) := ⟨_, rfl⟩
  rw [← hB0]
  have H2 := Lib.hid (And.intro (H1.out.trans (hb2.mono l1)) hB0)
  have l2 := hb2.size
  clear hb2 hst2 hB0
  go_upto_region 3 with (first
    | ((with_reducible refine at_store_law ?_); refine wpList_store_row rfl 45 _ _ rfl _ _ rfl rfl _ _ (heap_alloc_new _ _) (lab_size _) (by unfold labCells; rfl) (lab_one _) ?_; (try simp only [World.setRow_alloc_new]))
    | fail)
  refine name_world fun W hW => ?_
  have vB : Below w2.heap.size w2 W := by rw [← hW]; go_grown
  have v3 : W.heap[w2.heap.size]? = some (.cells (labCells B0) 45 (0, 0)) := by rw [← hW]; exact heap_alloc_new _ _
  have HW := Lib.hid (And.intro (H2.out.1.trans (vB.mono (by omega))) v3)
  have lW := vB.size
  clear hW vB v3
  go_wp2_with fail
  go_at_call 15
  have hvW : InsV W.heap.size W (.slice b1 l.length k1) l := by
    have h := HV.out.below HW.out.1
    rcases h with h | ⟨g, o, cap, q1, q2, q3⟩
    · exact .inl h
    · exact .inr ⟨g, o, cap, q1, by have := HW.out.1.size; omega, q3⟩
  refine (code_any _ l W (HF.out.below HW.out.1) hvW hl).mono ?_
  rintro e w3 ⟨hb3, rfl⟩
  obtain ⟨S, hS⟩ : ∃ S, S = (⟨(l.flatMap encW).toArray⟩ : ByteArray) := ⟨_, rfl⟩
  rw [← hS]
  have hSz : S.size = (l.flatMap encW).length := by rw [hS]; rfl
  have lW3 := lt_of_block HW.out.2
  have H3 := Lib.hid (And.intro (HW.out.1.trans (hb3.mono HW.out.1.size)) (And.intro ((hb3.block _ lW3).trans HW.out.2) (And.intro hS hSz)))
  have l3 := hb3.size
  clear hb3 hS hvW hSz
  by_cases q1 : 20 < l.length
  · have q2 : (20 : Int) < (l.length : Int) := by omega
    go_wp2
    go_ret
    exact ⟨rfl, H3.out.1⟩
  have q2 : ¬ (20 : Int) < (l.length : Int) := by omega
  have q3 : IntKind.i64.wrap (8 * (l.length : Int)) = 8 * (l.length : Int) := IntWalk.i64_in _ (by omega)
  by_cases q4 : S.size = 8 * l.length
  · have q5 : (S.size : Int) = 8 * (l.length : Int) := by omega
    have hright : ∀ x ∈ l, x.Right := encs_full l (by rw [← H3.out.2.2.2]; exact q4)
    have hB0s : B0.size = 256 := by rw [H2.out.2]; show tinyL.toArray.size = 256; rw [List.size_toArray, tinyL_length]
    have hB0i : (B0.size : Int) = 256 := by omega
    obtain ⟨E, hE⟩ : ∃ E, E = B0.extract (8 * l.length) B0.size := ⟨_, rfl⟩
    have hEs : E = ⟨(tinyL.drop (8 * l.length)).toArray⟩ := by rw [hE, H2.out.2, tail_str]
    have hEz : E.size = 256 - 8 * l.length := by rw [hEs]; show (tinyL.drop (8 * l.length)).toArray.size = _; rw [List.size_toArray, List.length_drop, tinyL_length]
    have hsz : ¬ 9223372036854775807 < S.size + E.size := by omega
    have hSE : S ++ E = ⟨(makesL l).toArray⟩ := by rw [H3.out.2.2.1, hEs, append_str, encs_right l hright]; rfl
    have hs1 : (S.size : Int) ≤ (B0.size : Int) := by omega
    have hs2 : S.size ≤ B0.size := by omega
    have c5 := cell_in H3.out.2.1 5 (labGet5 B0)
    have f5 := free_in H3.out.2.1 5
    have HR := Lib.hid (And.intro hright (And.intro hEs (And.intro hEz hSE)))
    clear hright hEs hEz hSE hB0s
    go_upto_region 7 with fail
    rw [← hE]
    obtain ⟨B, hB⟩ : ∃ B, B = S ++ E := ⟨_, rfl⟩
    rw [← hB]
    refine name_world fun U hU => ?_
    have uo : Only (· = w2.heap.size) w3 U := by rw [← hU]; exact (Only.refl _ _).setCell _ _ (.inl rfl)
    have u3 : U.heap[w2.heap.size]? = some (.cells (labCells B) 45 (0, 0)) := by
      rw [← hU, ← lab_set B0 B]
      exact block_set (l := (labCells B0).toList) H3.out.2.1 5 (.string B)
    have uk : Below w.heap.size w U := H3.out.1.trans (uo.below H3.out.1.size (fun k hk => by have := H2.out.1.size; omega))
    have HU := Lib.hid (And.intro uk (And.intro u3 (hB.trans HR.out.2.2.2)))
    have lU := uk.size
    clear hU uo u3 uk c5 f5 hE hB hsz
    go_wp2_with (first
      | (refine wpList_load_row rfl 45 (.tmp 4) rfl _ rfl 45 (labCells B) (0, 0) _ HU.out.2.1 Tryz.underlying45 rfl (lab_size _) ?_)
      | (refine wpList_gets rfl (buildSlice_tiny 44 B _ _ _ rfl rfl) ?_)
      | fail)
    go_at_call 7
    have kA : Below w.heap.size w (U.alloc (.cells (labCells B) 45)) := HU.out.1.trans (((Below.refl _ _).alloc (Nat.le_refl _) _).mono lU)
    refine (pnew_fresh U.heap.size (makesL l) B HU.out.2.2 (makesL_length l (by omega)) _ (heap_alloc_new _ _)).mono ?_
    rintro e w4 ⟨n, rfl, hb4, hP, hsp, hfr, hnp⟩
    have k4 := kA.trans (hb4.mono kA.size)
    have l4 := k4.size
    have hps : [codeP (makesL l) n.b1, dataP (makesL l) n.b2, stackP n.b3] = tinyP (makesL l) n.b1 n.b2 n.b3 0 := by rw [dataP_zero (makesL l) (makesL_length l (by omega))]; rfl
    rw [hps] at hsp
    have hctx : Ctx B w4 n (.slice none 0 0) n.g n.cap [] (tinyP (makesL l) n.b1 n.b2 n.b3 0) := ⟨hP.head, hP.load, hP.mods, hP.thread, hP.calls, hsp, areas_tiny _ _ _ _ _, .inl ⟨rfl, rfl⟩, by decide⟩
    have H4 := Lib.hid (And.intro k4 hctx)
    clear hb4 hP hsp hfr hnp k4 kA hps hctx
    go_wp2_with fail
    go_at_call 16
    have hi := hits_ins l (by omega) n.b1 n.b2 n.b3 0 (8 * (l.length : Int)) rfl
    refine (hCode B n (.slice none 0 0) n.g n.cap [] (tinyP (makesL l) n.b1 n.b2 n.b3 0) 512 (8 * (l.length : Int)) l w4 H4.out.2 (HF.out.below H4.out.1) (by simp [tinyP]) (by decide) (by decide) (by omega) (by omega) (fun p hp => (tiny_hps p hp).1) (by simp [tinyP]) hi.1.symm (dec_get (fun k h1 h2 => ⟨(hi.2 k h1 h2).2, HR.out.1 _ (List.getElem_mem h2)⟩)) (by omega)).mono ?_
    rintro e w5 ⟨v9, ss, rfl, hnd, hm, hown, _, hb5⟩
    have hgot : ∀ z, z ∈ ss ↔ z ∈ wantW l l.length := fun z => (hm z).trans (got_iff l _ hi.1 (fun i h => (hi.2 i h (by have := hi.1; omega)).1) HR.out.1 z)
    have hints : IntsV w5 v9 ss := ints_row hown
    obtain ⟨a9, n9, c9, rfl⟩ : ∃ a9 n9 c9, v9 = .slice a9 n9 c9 := by
      rcases hints with ⟨h, _⟩ | ⟨g, c, h, _⟩
      · exact ⟨_, _, _, h⟩
      · exact ⟨_, _, _, h⟩
    obtain rfl : n9 = ss.length := by
      rcases hints with ⟨h, h'⟩ | ⟨g, c, h, _⟩
      · injection h with _ e2 _; rw [e2, h']; rfl
      · injection h
    have hssl : ss.length ≤ 420 := by
      rw [← firsts_all (wantW l l.length) ss hnd hgot]
      have a1 := firsts_len (wantW l l.length) (wantW l l.length).length
      have a2 := want_len l l.length
      have a3 : l.length * (l.length + 1) ≤ 20 * 21 := Nat.mul_le_mul (by omega) (by omega)
      omega
    have H5 := Lib.hid (And.intro (H4.out.1.trans (hb5.mono l4)) (And.intro hnd (And.intro hgot hints)))
    have l5 := hb5.size
    clear hi hnd hm hown hb5 hgot hints
    obtain ⟨i0, hi0, hz0, hz1, hz2⟩ := info_parts infoc_ints
    go_wp2_with fail
    go_loopw [11, 12] (fun v11 i wr => ∃ k : Nat, k ≤ l.length ∧ i = .int .i64 k ∧ wr.ownsRow w5.heap.size 3 1 v11 (wantW l k).length ((wantW l k).map (Value.int .i64)) ∧ Below w5.heap.size w5 wr) (fun _ i _ => l.length - (vI i).toNat)
    case atStart => exact ⟨0, Nat.zero_le _, rfl, World.ownsRow_nil _ _ _ _, Below.refl _ _⟩
    case round =>
      obtain ⟨k, hk, rfl, hrow, hbr⟩ := hrel
      have hwl : (wantW l k).length ≤ 420 := by
        have a2 := want_len l k
        have a3 : k * (l.length + 1) ≤ 20 * 21 := Nat.mul_le_mul (by omega) (by omega)
        omega
      by_cases hlt : k < l.length
      · obtain ⟨wp, rfl⟩ : ∃ wp, wp = wr := ⟨_, rfl⟩
        rcases HV.out.below (H5.out.1.trans (hbr.mono H5.out.1.size)) with ⟨_, h'⟩ | ⟨g, o, cap, h, hg, hc⟩
        · rw [h'] at hlt; simp at hlt
        injection h with e1 e2 e3
        subst e1 e3
        have hrg := ins_range hc k hlt
        have hwk := want_succ l k hlt
        have hxr := HR.out.1 _ (List.getElem_mem hlt)
        obtain ⟨x, hx⟩ : ∃ x, x = l[k] := ⟨_, rfl⟩
        rw [← hx] at hrg hwk hxr
        have HK := Lib.hid (And.intro hrow (And.intro hbr (And.intro hc (And.intro hwk hxr))))
        have HRG := Lib.hid hrg
        have k0 : (0 : Int) ≤ (k : Int) := by omega
        have k1' : (k : Int) < (l.length : Int) := by omega
        have lwp := hbr.size
        clear hrow hbr hc hwk hxr hx hrg
        go_upto_region 17 with (first
          | (refine wpList_load_mid rfl 67 (.tmp 68) rfl g (o + k * 5) rfl [.int .i64 x.op, .int .i64 x.a, .int .i64 x.b, .int .i64 x.c, .int .i64 x.imm] _ HRG.out Tryz.underlying67 rfl (ins_len _ _ _ _ _) ?_)
          | ((with_reducible refine at_store_law ?_); refine wpList_store_row rfl _ _ _ rfl _ _ rfl rfl _ _ (by (repeat (first | assumption | exact heap_alloc_new _ _ | refine block_old ?_ | refine block_drew ?_ | apply setRow_heap | (refine (setRow_other _ _ _ _ ?_).trans ?_; omega)))) (by kernel_rfl) (by rfl) (by simp [Value.oneCell']) ?_; (try simp only [World.setRow_alloc_new]))
          | fail)
        refine name_world fun V hV => ?_
        have vB : Below wp.heap.size wp V := by rw [← hV]; go_grown
        have vx : V.heap[wp.heap.size]? = some (.cells [.int .i64 x.op, .int .i64 x.a, .int .i64 x.b, .int .i64 x.c, .int .i64 x.imm].toArray 67 (0, 0)) := by rw [← hV]; exact heap_alloc_new _ _
        have vrow := ownsRow_below' HK.out.1 vB
        have d0 := cell_l vx 0 rfl
        have d1 := cell_l vx 1 rfl
        have d4 := cell_l vx 4 rfl
        have lV := vB.size
        have HVV := Lib.hid (And.intro vB (And.intro vx vrow))
        clear hV vB vx vrow
        have hf := HK.out.2.2.2.2.im.fit
        have hf1 := hf.1
        have hf2 := hf.2
        have w1' : IntKind.i64.wrap (8 * (k : Int)) = 8 * (k : Int) := IntWalk.i64_in _ (by omega)
        have w2' : IntKind.i64.wrap (512 + 8 * (k : Int)) = 512 + 8 * (k : Int) := IntWalk.i64_in _ (by omega)
        have w3' : IntKind.i64.wrap (512 + 8 * (k : Int) + x.imm) = 512 + 8 * (k : Int) + x.imm := IntWalk.i64_in _ (by omega)
        clear hf
        by_cases hj : JumpOp x.op
        · have hnx : wantW l (k + 1) = wantW l k ++ [512 + 8 * (k : Int) + x.imm] := by rw [HK.out.2.2.2.1, row_jump hj]
          have HN := Lib.hid hnx
          clear hnx
          have w4' : wrap64 (512 + 8 * (k : Int) + x.imm) = 512 + 8 * (k : Int) + x.imm := IntWalk.wrap64_in _ (by omega)
          rcases hj with h | h | h | h | h | h | h
          all_goals
            rw [h] at d0
            clear h hf1 hf2
            go_wp2_with (first
              | (at_builtin; refine wpList_append_own_at _ rfl _ _ 31 rfl w5.heap.size 3 i0 (.int .i64 0) 1 8 Tryz.underlying31 hi0 hz0 hz1 hz2 rfl (by decide) _ _ _ rfl (HVV.out.2.2.alloc _) ⟨V.heap.size, 0, none⟩ 1 1 [.int .i64 (512 + 8 * (k : Int) + x.imm)] rfl rfl (cell_one_new _ _ _) (by intro u hu; rw [List.mem_singleton] at hu; rw [hu]; rfl) (by unfold maxLen; omega) (by omega) (by simp; omega) ?_; intro v' w6 hown6 hgrow6 hnil6 hloc6; clear hnil6 hloc6; have H6 := Lib.hid (And.intro hown6 hgrow6); clear hown6 hgrow6)
              | fail)
            go_roundw
            case rel =>
              refine ⟨k + 1, by omega, by go_num, ?_, ((HK.out.2.1.trans (HVV.out.1.mono lwp)).alloc (by omega) _).grown H6.out.2 (by simp; omega) (fun j hj => (HVV.out.2.2.lt j hj).1)⟩
              rw [HN.out, List.length_append, List.map_append]
              exact H6.out.1
            case measure => simp [vI]; omega
        · by_cases h3 : x.op = 3
          · have hnx : wantW l (k + 1) = wantW l k ++ x.imm :: highsW x l := by rw [HK.out.2.2.2.1, row_set' h3]
            have HN := Lib.hid hnx
            rw [h3] at d0
            have hwl1 := hwl
            clear hnx hj h3 w1' w2' w3'
            go_upto_region 28 with (first
              | (at_builtin; refine wpList_append_own_at _ rfl _ _ 31 rfl w5.heap.size 3 i0 (.int .i64 0) 1 8 Tryz.underlying31 hi0 hz0 hz1 hz2 rfl (by decide) _ _ _ rfl (HVV.out.2.2.alloc _) ⟨V.heap.size, 0, none⟩ 1 1 [.int .i64 x.imm] rfl rfl (cell_one_new _ _ _) (by intro u hu; rw [List.mem_singleton] at hu; rw [hu]; rfl) (by unfold maxLen; omega) (by omega) (by simp; omega) ?_; intro v' w6 hown6 hgrow6 hnil6 hloc6; clear hnil6 hloc6; have H6 := Lib.hid (And.intro hown6 hgrow6); clear hown6 hgrow6)
              | fail)
            have b6 : Below w5.heap.size w5 w6 := ((HK.out.2.1.trans (HVV.out.1.mono lwp)).alloc (by omega) _).grown H6.out.2 (by simp; omega) (fun j hj => (HVV.out.2.2.lt j hj).1)
            have x6 : w6.heap[wp.heap.size]? = some (.cells [.int .i64 x.op, .int .i64 x.a, .int .i64 x.b, .int .i64 x.c, .int .i64 x.imm].toArray 67 (0, 0)) := by
              refine (H6.out.2.block _ (by simp; omega) (fun e => ?_)).trans (block_old HVV.out.2.1)
              obtain ⟨cs, fr, hcs⟩ := own_cells HVV.out.2.2 e.symm
              exact block_ne HVV.out.2.1 hcs (by decide) rfl
            have r6 : w6.ownsRow w5.heap.size 3 1 v' ((wantW l k).length + 1 + (highsW x (l.take 0)).length) ((wantW l k ++ x.imm :: highsW x (l.take 0)).map (Value.int .i64)) := by
              have := H6.out.1
              rw [List.map_append]
              exact this
            have HG := Lib.hid (And.intro b6 (And.intro x6 r6))
            clear b6 x6 r6 d0 d1 d4
            have hg5 : g < w5.heap.size := Nat.lt_of_lt_of_le hg H5.out.1.size
            go_wp2_with fail
            go_loopw [11, 14] (fun v11 i w' => ∃ j : Nat, j ≤ l.length ∧ i = .int .i64 j ∧ w'.ownsRow w5.heap.size 3 1 v11 ((wantW l k).length + 1 + (highsW x (l.take j)).length) ((wantW l k ++ x.imm :: highsW x (l.take j)).map (Value.int .i64)) ∧ Below w5.heap.size w5 w' ∧
              w'.heap[wp.heap.size]? = some (.cells [.int .i64 x.op, .int .i64 x.a, .int .i64 x.b, .int .i64 x.c, .int .i64 x.imm].toArray 67 (0, 0))) (fun _ i _ => l.length - (vI i).toNat)
            case atStart => exact ⟨0, Nat.zero_le _, rfl, HG.out.2.2, HG.out.1, HG.out.2.1⟩
            case round =>
              obtain ⟨j, hjl, rfl, hrj, hbj, hxj⟩ := hrel
              have hhl := Nat.le_trans (highs_len x (l.take j)) (List.length_take_le j l)
              by_cases hltj : j < l.length
              · have hcr : ∀ i u, (insCells l)[i]? = some u → wr.cell? ⟨g, o + i, none⟩ = some u := fun i u hu => (hbj.cell (p := ⟨g, o + i, none⟩) hg5).trans ((HK.out.2.1.cell (p := ⟨g, o + i, none⟩) hg5).symm.trans (HK.out.2.2.1 i u hu))
                have hry := ins_range hcr j hltj
                have htk := highs_take x l j hltj
                have hyr := HR.out.1 _ (List.getElem_mem hltj)
                obtain ⟨y, hy⟩ : ∃ y, y = l[j] := ⟨_, rfl⟩
                rw [← hy] at hry htk hyr
                have e0 := hry 0 _ rfl
                have e1 := hry 1 _ rfl
                have e4 := hry 4 _ rfl
                rw [Nat.add_zero] at e0
                have d0 := cell_l hxj 0 rfl
                have d1 := cell_l hxj 1 rfl
                have d4 := cell_l hxj 4 rfl
                have j0 : (0 : Int) ≤ (j : Int) := by omega
                have j1 : (j : Int) < (l.length : Int) := by omega
                have HJ := Lib.hid (And.intro hrj (And.intro hbj (And.intro hxj (And.intro htk hyr))))
                have ljr := hbj.size
                clear hcr hry htk hyr hy hrj hbj hxj
                by_cases hy4 : y.op = 4
                · by_cases hya : y.a = x.a
                  · have hnx2 : highsW x (l.take (j + 1)) = highsW x (l.take j) ++ [joined y.imm x.imm] := by rw [HJ.out.2.2.2.1, if_pos ⟨hy4, hya⟩]
                    have HN2 := Lib.hid hnx2
                    rw [hy4] at e0
                    rw [hya] at e1
                    clear hy4 hya hnx2
                    go_wp2
                    go_quiet (fail)
                    go_wp2
                    refine name_world fun WQ hWQ => ?_
                    have qB : Below wr.heap.size wr WQ := by rw [← hWQ]; exact below_draws _ _
                    clear hWQ
                    have lg3 : g < wr.heap.size := Nat.lt_of_lt_of_le hg5 ljr
                    have lx3 := lt_of_block HJ.out.2.2.1
                    have q4e := (qB.cell (p := ⟨g, o + j * 5 + 4, none⟩) lg3).trans e4
                    have q4d := (qB.cell (p := ⟨wp.heap.size, 4, none⟩) lx3).trans d4
                    have lq := qB.size
                    have HQ := Lib.hid (And.intro qB (ownsRow_below' HJ.out.1 qB))
                    have hyf := HJ.out.2.2.2.2.im.fit
                    have sh1 : IntKind.i64.wrap (y.imm * 4294967296) = y.imm * 4294967296 := IntWalk.i64_in _ (by have := hyf.1; have := hyf.2; omega)
                    have sm1 : IntKind.i64.wrap (y.imm * 4294967296 + x.imm % 4294967296) = joined y.imm x.imm := IntWalk.i64_in _ (by have := hyf.1; have := hyf.2; omega)
                    clear qB e0 e1 e4 d0 d1 d4 hyf
                    refine wp_region_facts [.val u11, .val (.slice (some ⟨g, o, none⟩) l.length k1), .val (.int .i64 j), .val (.pointer (some ⟨g, o + j * 5, none⟩)), .val (.pointer (some ⟨g, o + j * 5 + 4, none⟩)), .val (.int .i64 y.imm), .val (.int .i64 (y.imm * 4294967296)), .val (.pointer (some ⟨wp.heap.size, 4, none⟩)), .val (.int .i64 x.imm), .val (.int .i64 (x.imm % 4294967296)), .val (.int .i64 (joined y.imm x.imm)), .blk (fun b => .slice (some ⟨b, 0, none⟩) 1 1) (.cells [.int .i64 (joined y.imm x.imm)].toArray 3 (0, 0))] (by kernel_rfl) (by kernel_rfl) ?_ ?_
                    · simp only [stepsAll, List.take, List.length]
                      refine ⟨?_, ?_, ?_, ?_, ?_, ?_, ?_, ?_, ?_, ?_, ?_, ?_, ?_⟩
                      all_goals first | trivial | (intro a wx hb hf hd)
                      all_goals have hf0 : a.tmps[(0 : Nat)]?.getD undef = .slice (some ⟨g, o, none⟩) l.length k1 := (hf 0 (by decide +kernel)).trans rfl
                      all_goals have hf11 : a.tmps[(11 : Nat)]?.getD undef = u11 := (hf 11 (by decide +kernel)).trans rfl
                      all_goals have hf13 : a.tmps[(13 : Nat)]?.getD undef = .pointer (some ⟨wp.heap.size, 0, none⟩) := (hf 13 (by decide +kernel)).trans rfl
                      all_goals have hf14 : a.tmps[(14 : Nat)]?.getD undef = .int .i64 j := (hf 14 (by decide +kernel)).trans rfl
                      · exact grow_tmp _ rfl ⟨hf11, fun h => by cases h⟩
                      · exact grow_tmp _ rfl ⟨hf0, fun h => by cases h⟩
                      · exact grow_tmp _ rfl ⟨hf14, fun h => by cases h⟩
                      · have h119 : a.tmps[(119 : Nat)]?.getD undef = .slice (some ⟨g, o, none⟩) l.length k1 := hd 1 (by simp) (by kernel_rfl)
                        have h120 : a.tmps[(120 : Nat)]?.getD undef = .int .i64 j := hd 2 (by simp) (by kernel_rfl)
                        exact grow_value (v := .pointer (some ⟨g, o + j * 5, none⟩)) (by simp [execOp, h119, h120, j1, hltj, go_sem]) (Below.refl _ _) ⟨rfl, fun h => by cases h⟩
                      · have h121 : a.tmps[(121 : Nat)]?.getD undef = .pointer (some ⟨g, o + j * 5, none⟩) := hd 3 (by simp) (by kernel_rfl)
                        exact grow_value (v := .pointer (some ⟨g, o + j * 5 + 4, none⟩)) (by simp [execOp, h121, go_sem]) (Below.refl _ _) ⟨rfl, fun h => by cases h⟩
                      · have h122 : a.tmps[(122 : Nat)]?.getD undef = .pointer (some ⟨g, o + j * 5 + 4, none⟩) := hd 4 (by simp) (by kernel_rfl)
                        have hc4 := (hb.cell (p := ⟨g, o + j * 5 + 4, none⟩) (Nat.lt_of_lt_of_le lg3 lq)).trans q4e
                        exact grow_value (v := .int .i64 y.imm) (by simp [execOp, h122, hc4, go_sem]) (Below.refl _ _) ⟨rfl, fun h => by cases h⟩
                      · have h123 : a.tmps[(123 : Nat)]?.getD undef = .int .i64 y.imm := hd 5 (by simp) (by kernel_rfl)
                        exact grow_value (v := .int .i64 (y.imm * 4294967296)) (by simp [execOp, h123, sh1, go_sem]) (Below.refl _ _) ⟨rfl, fun h => by cases h⟩
                      · exact grow_value (v := .pointer (some ⟨wp.heap.size, 4, none⟩)) (by simp [execOp, hf13, go_sem]) (Below.refl _ _) ⟨rfl, fun h => by cases h⟩
                      · have h125 : a.tmps[(125 : Nat)]?.getD undef = .pointer (some ⟨wp.heap.size, 4, none⟩) := hd 7 (by simp) (by kernel_rfl)
                        have hc4 := (hb.cell (p := ⟨wp.heap.size, 4, none⟩) (Nat.lt_of_lt_of_le lx3 lq)).trans q4d
                        exact grow_value (v := .int .i64 x.imm) (by simp [execOp, h125, hc4, go_sem]) (Below.refl _ _) ⟨rfl, fun h => by cases h⟩
                      · have h126 : a.tmps[(126 : Nat)]?.getD undef = .int .i64 x.imm := hd 8 (by simp) (by kernel_rfl)
                        exact grow_value (v := .int .i64 (x.imm % 4294967296)) (by simp [execOp, h126, and_low, go_sem]) (Below.refl _ _) ⟨rfl, fun h => by cases h⟩
                      · have h124 : a.tmps[(124 : Nat)]?.getD undef = .int .i64 (y.imm * 4294967296) := hd 6 (by simp) (by kernel_rfl)
                        have h127 : a.tmps[(127 : Nat)]?.getD undef = .int .i64 (x.imm % 4294967296) := hd 9 (by simp) (by kernel_rfl)
                        exact grow_value (v := .int .i64 (joined y.imm x.imm)) (by simp [execOp, h124, h127, sm1, go_sem]) (Below.refl _ _) ⟨rfl, fun h => by cases h⟩
                      · have h128 : a.tmps[(128 : Nat)]?.getD undef = .int .i64 (joined y.imm x.imm) := hd 10 (by simp) (by kernel_rfl)
                        exact grow_value (v := .slice (some ⟨wx.heap.size, 0, none⟩) 1 1) (by simp [execOp, h128, go_sem]) ((Below.refl _ _).alloc (Nat.le_refl _) (.cells [.int .i64 (joined y.imm x.imm)].toArray 3 (0, 0))) ⟨⟨_, rfl, heap_alloc_new _ _⟩, fun _ b hbk => by simp [blkOf] at hbk; subst hbk; simp⟩
                    · intro fv w7 hb7 hs hn hne
                      have g118 : fv 118 = u11 := hs 0 (by simp)
                      have g119 : fv 119 = .slice (some ⟨g, o, none⟩) l.length k1 := hs 1 (by simp)
                      have g120 : fv 120 = .int .i64 j := hs 2 (by simp)
                      have g121 : fv 121 = .pointer (some ⟨g, o + j * 5, none⟩) := hs 3 (by simp)
                      have g122 : fv 122 = .pointer (some ⟨g, o + j * 5 + 4, none⟩) := hs 4 (by simp)
                      have g123 : fv 123 = .int .i64 y.imm := hs 5 (by simp)
                      have g124 : fv 124 = .int .i64 (y.imm * 4294967296) := hs 6 (by simp)
                      have g125 : fv 125 = .pointer (some ⟨wp.heap.size, 4, none⟩) := hs 7 (by simp)
                      have g126 : fv 126 = .int .i64 x.imm := hs 8 (by simp)
                      have g127 : fv 127 = .int .i64 (x.imm % 4294967296) := hs 9 (by simp)
                      have g128 : fv 128 = .int .i64 (joined y.imm x.imm) := hs 10 (by simp)
                      obtain ⟨bq, g129, hbq⟩ : ∃ b, fv 129 = .slice (some ⟨b, 0, none⟩) 1 1 ∧ w7.heap[b]? = some (.cells [.int .i64 (joined y.imm x.imm)].toArray 3 (0, 0)) := hs 11 (by simp)
                      rw [show (List.range (List.length _)).map (dstOf _) = [118, 119, 120, 121, 122, 123, 124, 125, 126, 127, 128, 129] from by kernel_rfl]
                      simp only [actOf, List.foldl, Act.put, List.drop, List.length, g118, g119, g120, g121, g122, g123, g124, g125, g126, g127, g128, g129, List.setIfInBounds_toArray, List.set_cons_zero, List.set_cons_succ]
                      clear hs hn hne g118 g119 g120 g121 g122 g123 g124 g125 g126 g127 g128 g129
                      have H7 := Lib.hid (And.intro hb7 (And.intro (ownsRow_below' HQ.out.2 hb7) hbq))
                      have l7 := hb7.size
                      clear hb7 hbq
                      go_wp2_with (first
                        | (at_builtin; refine wpList_append_own_at _ rfl _ _ 31 rfl w5.heap.size 3 i0 (.int .i64 0) 1 8 Tryz.underlying31 hi0 hz0 hz1 hz2 rfl (by decide) _ _ _ rfl H7.out.2.1 ⟨bq, 0, none⟩ 1 1 [.int .i64 (joined y.imm x.imm)] rfl rfl (cell_one_at H7.out.2.2) (by intro u hu; rw [List.mem_singleton] at hu; rw [hu]; rfl) (by unfold maxLen; omega) (by omega) (by omega) ?_; intro v2 w8 hown8 hgrow8 hnil8 hloc8; clear hnil8 hloc8; have H8 := Lib.hid (And.intro hown8 hgrow8); clear hown8 hgrow8)
                        | fail)
                      go_roundw
                      case rel =>
                        have bz : Below w5.heap.size w5 w7 := (HJ.out.2.1.trans (HQ.out.1.mono ljr)).trans (H7.out.1.mono (by omega))
                        refine ⟨j + 1, by omega, by go_num, ?_, bz.grown H8.out.2 bz.size (fun i hi => (H7.out.2.1.lt i hi).1), ?_⟩
                        · rw [HN2.out, List.length_append, List.map_append, List.map_cons, List.map_append, ← List.cons_append, ← List.append_assoc, ← List.map_cons, ← List.map_append, ← Nat.add_assoc]
                          exact H8.out.1
                        · refine (H8.out.2.block _ (by omega) (fun e => ?_)).trans ((H7.out.1.block _ (by omega)).trans ((HQ.out.1.block _ lx3).trans HJ.out.2.2.1))
                          obtain ⟨cs, fr, hcs⟩ := own_cells H7.out.2.1 e.symm
                          exact block_ne ((H7.out.1.block _ (by omega)).trans ((HQ.out.1.block _ lx3).trans HJ.out.2.2.1)) hcs (by decide) rfl
                      case measure => simp [vI]; omega
                  · have hnx2 : highsW x (l.take (j + 1)) = highsW x (l.take j) := by rw [HJ.out.2.2.2.1, if_neg (fun h => hya h.2), List.append_nil]
                    have HN2 := Lib.hid hnx2
                    rw [hy4] at e0
                    clear hy4 hnx2
                    go_wp2
                    go_quiet (fail)
                    go_wp2
                    go_roundw
                    case rel => exact ⟨j + 1, by omega, by go_num, by rw [HN2.out]; exact ownsRow_below' HJ.out.1 (below_draws _ _), HJ.out.2.1.trans ((below_draws _ _).mono ljr), HJ.out.2.2.1⟩
                    case measure => simp [vI]; omega
                · have hnx2 : highsW x (l.take (j + 1)) = highsW x (l.take j) := by rw [HJ.out.2.2.2.1, if_neg (fun h => hy4 h.1), List.append_nil]
                  have HN2 := Lib.hid hnx2
                  clear hnx2
                  go_wp2
                  go_quiet (fail)
                  go_wp2
                  go_roundw
                  case rel => exact ⟨j + 1, by omega, by go_num, by rw [HN2.out]; exact ownsRow_below' HJ.out.1 (below_draws _ _), HJ.out.2.1.trans ((below_draws _ _).mono ljr), HJ.out.2.2.1⟩
                  case measure => simp [vI]; omega
              · obtain rfl : j = l.length := by omega
                have HJ := Lib.hid (And.intro hrj hbj)
                clear hrj hbj hxj
                go_wp2
                go_roundw
                case rel =>
                  refine ⟨k + 1, by omega, by go_num, ?_, HJ.out.2⟩
                  have := HJ.out.1
                  rw [List.take_length] at this
                  rw [HN.out, List.length_append, List.length_cons]
                  rw [show (wantW l k).length + ((highsW x l).length + 1) = (wantW l k).length + 1 + (highsW x l).length by omega]
                  exact this
                case measure => simp [vI]; omega
          · have hnx : wantW l (k + 1) = wantW l k := by rw [HK.out.2.2.2.1, row_none hj h3, List.append_nil]
            have HN := Lib.hid hnx
            have n1 : ¬ x.op = 14 := fun h => hj (by unfold JumpOp; omega)
            have n2 : ¬ x.op = 19 := fun h => hj (by unfold JumpOp; omega)
            have n3 : ¬ x.op = 20 := fun h => hj (by unfold JumpOp; omega)
            have n4 : ¬ x.op = 21 := fun h => hj (by unfold JumpOp; omega)
            have n5 : ¬ x.op = 22 := fun h => hj (by unfold JumpOp; omega)
            have n6 : ¬ x.op = 24 := fun h => hj (by unfold JumpOp; omega)
            have n7 : ¬ x.op = 25 := fun h => hj (by unfold JumpOp; omega)
            clear hnx hj hf1 hf2 w1' w2' w3'
            go_wp2
            go_roundw
            case rel => exact ⟨k + 1, by omega, by go_num, by rw [HN.out]; exact HVV.out.2.2, HK.out.2.1.trans (HVV.out.1.mono lwp)⟩
            case measure => simp [vI]; omega
      · obtain rfl : k = l.length := by omega
        obtain ⟨wm, rfl⟩ : ∃ wm, wm = wr := ⟨_, rfl⟩
        have HL := Lib.hid (And.intro hrow hbr)
        clear hrow hbr
        obtain ⟨xs, hxs⟩ : ∃ xs, xs = wantW l l.length := ⟨_, rfl⟩
        have hvx : IntsV wm u11 xs := by rw [hxs]; exact ints_row HL.out.1
        obtain ⟨a11, c11, rfl⟩ : ∃ a11 c11, u11 = .slice a11 xs.length c11 := by
          rcases hvx with ⟨h, h'⟩ | ⟨g, c, h, _⟩
          · exact ⟨none, 0, by rw [h, h']; rfl⟩
          · exact ⟨_, _, h⟩
        have hcap : ∀ g, a11 = some g → xs.length ≤ c11 := fun g hg => by
          rcases HL.out.1.2 with ⟨h, _⟩ | ⟨_, cap, _, h, _, _, h4, _⟩
          · rw [hg] at h; cases h
          · injection h with _ _ e3
            rw [hxs, e3]; exact h4
        rw [← hxs] at hwl
        have hgot : ∀ z, z ∈ ss ↔ z ∈ xs := by rw [hxs]; exact H5.out.2.2.1
        have hcnt : (firstsW xs xs.length).length = ss.length := firsts_all xs ss H5.out.2.1 hgot
        have HX := Lib.hid (And.intro hvx (And.intro hgot (And.intro hcnt hcap)))
        clear hvx hgot hcnt hxs hcap
        go_wp2_with fail
        go_loopw [10, 15] (fun c i w' => ∃ k : Nat, k ≤ xs.length ∧ i = .int .i64 k ∧ c = .int .i64 (firstsW xs k).length ∧ Below wm.heap.size wm w') (fun _ i _ => xs.length - (vI i).toNat)
        case atStart => exact ⟨0, Nat.zero_le _, rfl, rfl, Below.refl _ _⟩
        case round =>
          obtain ⟨k, hk, rfl, rfl, hbk⟩ := hrel
          have hfl := firsts_len xs k
          by_cases hlt2 : k < xs.length
          · rcases HX.out.1 with ⟨h, h'⟩ | ⟨g11, cp, h, hg11, hcs⟩
            · rw [h'] at hlt2; simp at hlt2
            injection h with e1 e2 e3
            subst e1 e3
            have hcap := HX.out.2.2.2 _ rfl
            have cK := (hbk.cell (p := ⟨g11, k, none⟩) hg11).trans (hcs k hlt2)
            obtain ⟨y, hy⟩ : ∃ y, y = xs[k] := ⟨_, rfl⟩
            rw [← hy] at cK
            have hi36 : IntsV wr (.slice (some ⟨g11, 0, none⟩) k c11) (xs.take k) := .inr ⟨g11, c11, by rw [List.length_take, Nat.min_eq_left hk], Nat.lt_of_lt_of_le hg11 hbk.size, fun j hj => by
              rw [List.length_take] at hj
              rw [List.getElem_take]
              exact (hbk.cell (p := ⟨g11, j, none⟩) hg11).trans (hcs j (by omega))⟩
            have hi9 : IntsV wr (.slice a9 ss.length c9) ss := H5.out.2.2.2.below (HL.out.2.trans (hbk.mono HL.out.2.size))
            have hys : y ∈ ss := (HX.out.2.1 y).2 (by rw [hy]; exact List.getElem_mem hlt2)
            have hyk : xs[k]?.getD 0 = y := by rw [List.getElem?_eq_getElem hlt2, hy]; rfl
            have HB := Lib.hid (And.intro hbk (And.intro hi36 (And.intro hi9 (And.intro hys hyk))))
            have k0 : (0 : Int) ≤ (k : Int) := by omega
            have k1' : (k : Int) < (xs.length : Int) := by omega
            have hkc : k ≤ c11 := by omega
            have hc0 : ¬ c11 = 0 := by omega
            clear hbk hcs hi36 hi9 hys hyk hy hcap
            go_upto_region 36 with fail
            refine wp_region_still_tail 7 (by kernel_rfl) (by kernel_rfl) ?_
            simp only [List.take_succ_cons, List.take_zero, List.drop_succ_cons, List.drop_zero]
            generalize hU2 : World.mk wr.heap wr.tape (wr.drawn + 1) wr.os wr.output = U2
            have hUV : U2 = wr.drew := hU2.symm
            have cK2 : U2.cell? ⟨g11, k, none⟩ = some (.int .i64 y) := by rw [hUV]; exact cK
            have uB : Below wr.heap.size wr U2 := by rw [hUV]; exact (Below.refl _ _).drew
            have HU2 := Lib.hid uB
            have lU2 := uB.size
            clear hU2 hUV uB cK
            repeat still_step
            refine wpStill_nil ?_
            go_wp2_with fail
            go_at_call 17
            refine (has_any (.slice (some ⟨g11, 0, none⟩) k c11) (xs.take k) y (decide (y ∈ xs.take k)) U2 (HB.out.2.1.below HU2.out) (by rw [List.length_take]; omega) decide_eq_true_iff).mono ?_
            rintro e w7 ⟨rfl, rfl⟩
            by_cases hm : y ∈ xs.take k
            · have hd : decide (y ∈ xs.take k) = true := decide_eq_true hm
              have hnx : firstsW xs (k + 1) = firstsW xs k := by
                show (if xs[k]?.getD 0 ∈ xs.take k then _ else _) = _
                rw [HB.out.2.2.2.2, if_pos hm]
              rw [hd]
              have HN := Lib.hid hnx
              clear hnx hd hm
              go_wp2_with fail
              go_at_call 17
              refine (has_any (.slice a9 ss.length c9) ss y true w7 (HB.out.2.2.1.below HU2.out) (by omega) ⟨fun _ => HB.out.2.2.2.1, fun _ => rfl⟩).mono ?_
              rintro e w8 ⟨rfl, rfl⟩
              go_wp2
              go_roundw
              case rel => exact ⟨k + 1, by omega, by go_num, by rw [HN.out], HB.out.1.trans (HU2.out.mono HB.out.1.size)⟩
              case measure => simp [vI]; omega
            · have hd : decide (y ∈ xs.take k) = false := decide_eq_false hm
              have hnx : (firstsW xs (k + 1)).length = (firstsW xs k).length + 1 := by
                show (if xs[k]?.getD 0 ∈ xs.take k then _ else firstsW xs k ++ [xs[k]?.getD 0] : List Int).length = _
                rw [HB.out.2.2.2.2, if_neg hm, List.length_append]
                rfl
              rw [hd]
              have HN := Lib.hid hnx
              clear hnx hd hm
              go_wp2_with fail
              go_at_call 17
              refine (has_any (.slice a9 ss.length c9) ss y true w7 (HB.out.2.2.1.below HU2.out) (by omega) ⟨fun _ => HB.out.2.2.2.1, fun _ => rfl⟩).mono ?_
              rintro e w8 ⟨rfl, rfl⟩
              go_wp2
              go_roundw
              case rel => exact ⟨k + 1, by omega, by go_num, by rw [HN.out]; go_num, HB.out.1.trans (HU2.out.mono HB.out.1.size)⟩
              case measure => simp [vI]; omega
          · obtain rfl : k = xs.length := by omega
            rw [HX.out.2.2.1]
            have HB := Lib.hid hbk
            clear hbk hfl
            go_wp2
            go_ret
            exact ⟨rfl, H5.out.1.trans ((HL.out.2.trans (HB.out.mono HL.out.2.size)).mono H5.out.1.size)⟩
  · have q5 : ¬ (S.size : Int) = 8 * (l.length : Int) := by omega
    go_wp2
    go_ret
    exact ⟨rfl, H3.out.1⟩
end Go.Proofs.YtkbilipgidcgeaaGreatDoor.Tiny
