/- frame: walk without images; Walk of the example. dump: a list of the reader's (cpu). dump: the reader's threads. dump: a list of the reader's (thr). dump: a list of the reader's (mod). dump: a list of the reader's (str). dump: a list of the reader's (chk). -/
import Derived.Laws.AppendOwnNone
import Derived.Test.YtacaejpamidkcaaGreatDoorR40
set_option linter.unusedVariables false
set_option linter.unusedSimpArgs false
set_option maxRecDepth 100000
set_option maxHeartbeats 2000000
namespace Go.Proofs.YtacaejpamidkcaaGreatDoor
namespace Two
open Go.RowKit
attribute [local go_sem] ak_ af_
attribute [local irreducible] aa_ zImg cm_ exC cpuL
theorem sh_ (gm cm gc cc : Nat) (ID : ByteArray) (r : Nat → Int) (hr : r 15 = 2032) (w : World) (h : w.rangeAt gm 0 [.string labS, .string ID, .int .i64 512, .int .i64 256, .bool false]) (hgm : gm < w.heap.size) :
 Calls Tryz.prog 185 #[.agg (ng_ gm cm gc cc), .agg (cpuL r 576).toArray, .int .i64 0] w fun e w' => e = .returned (.slice none 0 0) ∧ Below w.heap.size w w' := by
 have HH := h1_ h
 clear h
 go_enter Tryz.func185, Tryz.ntmps185
 unfold ng_ gg_
 go_upto_region 2 with fail
 refine ac_ fun V hV => ?_
 have vB : Below w.heap.size w V := by rw [← hV]; go_grown
 have v3 : V.heap[w.heap.size]? = some (.cells #[.slice (some ⟨gm, 0, none⟩) 1 cm, .slice none 0 0, .slice none 0 0, .slice none 0 0, .slice (some ⟨gc, 0, none⟩) 2 cc] 139 (0, 0)) := by rw [← hV]; exact ae_ (heap_alloc_new _ _)
 have v4 : V.heap[w.heap.size + 1]? = some (.cells (cpuL r 576).toArray 70 (0, 0)) := by rw [← hV]; exact block_at (by simp)
 have d15 := ab_ v4 15 (cpu_15 r 576)
 have d16 := ab_ v4 16 (cpu_16 r 576)
 rw [hr] at d15
 have lV := lt_of_block v4
 have HV := h2_ vB v3
 clear hV vB v3 v4
 go_quiet (fail)
 refine ac_ fun w1 hW1 => ?_
 have qB : Below V.heap.size V w1 := by rw [← hW1]; exact hz_ _ _
 have b1 := HV.out.1.trans (qB.mono HV.out.1.size)
 have k1 := at_b qB HV.out.2
 have H1 := h3_ b1 k1 (bh_ HH.out hgm b1)
 have lgm := Nat.lt_of_lt_of_le hgm b1.size
 clear hW1 qB b1 k1 d15 d16 HV
 go_wp2_with fail
 refine wp_loop_rounds 2 ?_
 rw [rounds_succ]
 go_wp2_with (refine wpList_load_row rfl 139 (.tmp 3) rfl w.heap.size rfl 139 #[.slice (some ⟨gm, 0, none⟩) 1 cm, .slice none 0 0, .slice none 0 0, .slice none 0 0, .slice (some ⟨gc, 0, none⟩) 2 cc] (0, 0) _ H1.out.2.1 Tryz.underlying139 rfl (by kernel_rfl) ?_)
 refine (l2_ gm cm gc cc ID 576 (by omega) _ H1.out.2.2 lgm).mono ?_
 rintro e u3 ⟨rfl, hb⟩
 have HU := h1_ (H1.out.1.trans (hb.mono H1.out.1.size))
 clear hb
 go_upto_region 6 with ((with_reducible refine ad_ ?_); refine wpList_store_row rfl 476 _ _ rfl _ _ rfl rfl _ _ (heap_alloc_new _ _) cn_ (by rw [vd_]; rfl) ek_ ?_; (try simp only [World.setRow_alloc_new]))
 refine ac_ fun X3 hX => ?_
 have xB : Below u3.heap.size u3 X3 := by rw [← hX]; go_grown
 have HX := h1_ (HU.out.trans (xB.mono HU.out.size))
 clear hX xB
 go_wp2
 go_ret
 exact ⟨rfl, HX.out⟩
theorem xn_ (gm cm gi ci gd cd gc cc : Nat) (B : IB) (ID : ByteArray) (C S : List UInt8) (hC : C.length = 256) (hS : S.length = 1024) (h1 : (S.drop 1008).take 8 = ct_ 536) (h2 : (S.drop 1016).take 8 = ct_ 0) (gq cq : Nat) (r : Nat → Int) (hr : r 15 = 2032) (w : World) (h : ViewAt B ID C S gm gi gd gc w) (hq : w.rangeAt gq 0 (cpuL r 576)) (lq : gq < w.heap.size) :
 Calls Tryz.prog 89 #[.agg (vOne gm cm gi ci gd cd gc cc), .slice (some ⟨gq, 0, none⟩) 1 cq] w fun e w' => (∃ g c, e = .returned (.slice (some ⟨g, 0, none⟩) 2 c) ∧ w'.ownsRow w.heap.size 196 6 (.slice (some ⟨g, 0, none⟩) 2 c) 2 (frmC ID 576 2032 64 ++ frmC ID 536 2040 16)) ∧ Below w.heap.size w w' := by
 obtain ⟨i0, hi, hz0, hz1, hz2⟩ := info_parts if_
 have HH := h1_ h
 have HQ := h1_ hq
 clear h hq
 go_enter Tryz.func89, Tryz.ntmps89
 unfold vOne gg_
 go_upto_region 2 with fail
 refine ac_ fun V hV => ?_
 have vB : Below w.heap.size w V := by rw [← hV]; go_grown
 have v2 : V.heap[w.heap.size]? = some (.cells #[.slice (some ⟨gm, 0, none⟩) 1 cm, .slice none 0 0, .slice (some ⟨gi, 0, none⟩) 1 ci, .slice (some ⟨gd, 0, none⟩) 1 cd, .slice (some ⟨gc, 0, none⟩) 2 cc] 139 (0, 0)) := by rw [← hV]; exact heap_alloc_new _ _
 have lV := lt_of_block v2
 have HV := h2_ vB v2
 clear hV vB v2
 go_wp2_with fail
 refine wp_loop_rounds 2 ?_
 rw [rounds_succ]
 go_upto_region 5 with (first
  | (refine wpList_load_mid rfl 70 (.tmp 13) rfl gq 0 rfl (cpuL r 576) _ (bh_ HQ.out lq HV.out.1) Tryz.underlying70 rfl (cpu_len r 576) ?_)
  | ((with_reducible refine ad_ ?_); refine wpList_store_row rfl 70 _ _ rfl _ _ rfl rfl _ _ (heap_alloc_new _ _) (dv_ r 576) (by rw [vc_]; rfl) (gs_ r 576) ?_; (try simp only [World.setRow_alloc_new])))
 refine ac_ fun X hX => ?_
 have xB : Below V.heap.size V X := by rw [← hX]; go_grown
 have x7 : X.heap[V.heap.size]? = some (.cells (cpuL r 576).toArray 70 (0, 0)) := by rw [← hX]; exact heap_alloc_new _ _
 have x2 := at_b xB HV.out.2
 have HX := h3_ (HV.out.1.trans (xB.mono HV.out.1.size)) x2 x7
 clear hX xB x7 x2 HV
 go_wp2_with (first
  | (refine wpList_load_row rfl 139 (.tmp 2) rfl w.heap.size rfl 139 #[.slice (some ⟨gm, 0, none⟩) 1 cm, .slice none 0 0, .slice (some ⟨gi, 0, none⟩) 1 ci, .slice (some ⟨gd, 0, none⟩) 1 cd, .slice (some ⟨gc, 0, none⟩) 2 cc] (0, 0) _ HX.out.2.1 Tryz.underlying139 rfl (by kernel_rfl) ?_)
  | (refine wpList_load_row rfl 70 (.tmp 7) rfl V.heap.size rfl 70 (cpuL r 576).toArray (0, 0) _ HX.out.2.2 Tryz.underlying70 rfl (dv_ r 576) ?_))
 go_at_call 185
 refine (ve_ gm cm gi ci gd cd gc cc B ID C S hC hS h1 h2 r hr _ (HH.out.below HX.out.1)).mono ?_
 rintro e y ⟨⟨g, c, rfl, hown⟩, hb⟩
 have hB := HX.out.1.trans (hb.mono HX.out.1.size)
 have ls := hB.size
 have HY := h2_ hB hown
 clear hb hB hown
 go_wp2_with (at_builtin; refine wpList_append_lies _ rfl _ _ _ rfl w.heap.size 196 i0 (.agg #[.int .i64 0, .int .i64 0, .int .i64 0, .string ⟨#[]⟩, .int .i64 0, .bool false]) 6 56 Tryz.underlying193 hi hz0 hz1 hz2 rfl (by omega) _ 0 _ rfl (World.ownsRow_nil y w.heap.size 196 6) ⟨g, 0, none⟩ 2 c (frmC ID 576 2032 64 ++ frmC ID 536 2040 16) rfl rfl ?n1 ?n2 (by omega) ?n3 ?n4 ?n5 y.heap.size rfl ?_)
 case n1 => intro j u hj; rw [hx_]; exact (row_cell HY.out.2 j hj).1
 case n2 => simp [frmC, Value.oneCell']
 case n3 => unfold maxLen; omega
 case n4 => omega
 case n5 => omega
 intro g2 cap2 z hown hgrow hat hlt
 have hB : Below w.heap.size w z := HY.out.1.grown hgrow ls (fun q hq => by simp [Value.ownBlock] at hq)
 try simp only [Nat.zero_add, Nat.reduceAdd, List.nil_append] at hown
 have HZ := h2_ hB hown
 clear hB hown hgrow hat hlt
 go_wp2
 rw [rounds_succ]
 go_wp2
 go_ret
 exact ⟨⟨g2, cap2, by simp, HZ.out.2⟩, HZ.out.1⟩
theorem vf_ (gm cm gc cc : Nat) (ID : ByteArray) (gq cq : Nat) (r : Nat → Int) (hr : r 15 = 2032) (w : World) (h : w.rangeAt gm 0 [.string labS, .string ID, .int .i64 512, .int .i64 256, .bool false]) (hgm : gm < w.heap.size) (hq : w.rangeAt gq 0 (cpuL r 576)) (lq : gq < w.heap.size) :
 Calls Tryz.prog 89 #[.agg (ng_ gm cm gc cc), .slice (some ⟨gq, 0, none⟩) 1 cq] w fun e w' => e = .returned (.slice none 0 0) ∧ Below w.heap.size w w' := by
 obtain ⟨i0, hi, hz0, hz1, hz2⟩ := info_parts if_
 have HH := h1_ h
 have HQ := h1_ hq
 clear h hq
 go_enter Tryz.func89, Tryz.ntmps89
 unfold ng_ gg_
 go_upto_region 2 with fail
 refine ac_ fun V hV => ?_
 have vB : Below w.heap.size w V := by rw [← hV]; go_grown
 have v2 : V.heap[w.heap.size]? = some (.cells #[.slice (some ⟨gm, 0, none⟩) 1 cm, .slice none 0 0, .slice none 0 0, .slice none 0 0, .slice (some ⟨gc, 0, none⟩) 2 cc] 139 (0, 0)) := by rw [← hV]; exact heap_alloc_new _ _
 have lV := lt_of_block v2
 have HV := h2_ vB v2
 clear hV vB v2
 go_wp2_with fail
 refine wp_loop_rounds 2 ?_
 rw [rounds_succ]
 go_upto_region 5 with (first
  | (refine wpList_load_mid rfl 70 (.tmp 13) rfl gq 0 rfl (cpuL r 576) _ (bh_ HQ.out lq HV.out.1) Tryz.underlying70 rfl (cpu_len r 576) ?_)
  | ((with_reducible refine ad_ ?_); refine wpList_store_row rfl 70 _ _ rfl _ _ rfl rfl _ _ (heap_alloc_new _ _) (dv_ r 576) (by rw [vc_]; rfl) (gs_ r 576) ?_; (try simp only [World.setRow_alloc_new])))
 refine ac_ fun X hX => ?_
 have xB : Below V.heap.size V X := by rw [← hX]; go_grown
 have x7 : X.heap[V.heap.size]? = some (.cells (cpuL r 576).toArray 70 (0, 0)) := by rw [← hX]; exact heap_alloc_new _ _
 have x2 := at_b xB HV.out.2
 have HX := h3_ (HV.out.1.trans (xB.mono HV.out.1.size)) x2 x7
 clear hX xB x7 x2 HV
 go_wp2_with (first
  | (refine wpList_load_row rfl 139 (.tmp 2) rfl w.heap.size rfl 139 #[.slice (some ⟨gm, 0, none⟩) 1 cm, .slice none 0 0, .slice none 0 0, .slice none 0 0, .slice (some ⟨gc, 0, none⟩) 2 cc] (0, 0) _ HX.out.2.1 Tryz.underlying139 rfl (by kernel_rfl) ?_)
  | (refine wpList_load_row rfl 70 (.tmp 7) rfl V.heap.size rfl 70 (cpuL r 576).toArray (0, 0) _ HX.out.2.2 Tryz.underlying70 rfl (dv_ r 576) ?_))
 go_at_call 185
 refine (sh_ gm cm gc cc ID r hr _ (bh_ HH.out hgm HX.out.1) (Nat.lt_of_lt_of_le hgm HX.out.1.size)).mono ?_
 rintro e y ⟨rfl, hb⟩
 have HY := h1_ (HX.out.1.trans (hb.mono HX.out.1.size))
 clear hb
 go_wp2_with (at_builtin; refine wpList_append_own_none rfl _ _ _ rfl w.heap.size 196 i0 6 Tryz.underlying193 hi _ 0 [] rfl (World.ownsRow_nil y w.heap.size 196 6) rfl ?_)
 rw [rounds_succ]
 go_wp2
 go_ret
 exact ⟨rfl, HY.out⟩
end Two
section
open Go.RowKit Wire
attribute [local go_sem] ak_ af_
attribute [local irreducible] repS cpuS modS strS chkS
theorem xo_ : (Tryz.prog.info? 70).map (fun i => (i.zero, i.size, i.bytes)) = some (some (.agg (List.replicate 17 (Value.int .i64 0)).toArray), 17, 136) := by kernel_rfl
theorem cl_cpu (x : CpuD) (hx : x.length = 17) : (do_ x).length = 17 ∧ ∀ u ∈ do_ x, u.oneCell' = true := by
 unfold do_
 exact ⟨by rw [List.length_map]; exact hx, fun u hu => by obtain ⟨y, _, rfl⟩ := List.mem_map.1 hu; rfl⟩
theorem vg_ (qd q : Nat) (s : RS) (w : World) (h : DR w qd q s) :
 Calls Tryz.prog 52 #[.pointer (some ⟨qd, 0, none⟩)] w fun e w' => e = .returned (.agg (do_ (cpuS s).1).toArray) ∧ Only (DS qd q) w w' ∧ DR w' qd q (cpuS s).2 :=
 (dcpu qd q s w h).mono fun e w' ⟨he, ho, hd⟩ => ⟨he, ho.mono (fun _ _ h => .inl h), hd⟩
theorem vh_ (qd q : Nat) (s : RS) (hsm : s.rest.length ≤ 68719476736) (w : World) (h : DR w qd q s) :
 Calls Tryz.prog 53 #[.pointer (some ⟨qd, 0, none⟩), .func (.func 52) #[.pointer (some ⟨qd, 0, none⟩)] #[]] w fun e w' => ∃ v, e = .returned v ∧ Only (DS qd q) w w' ∧ DR w' qd q (du_ cpuS s).2 ∧ w'.ownsRow w.heap.size 70 17 v (du_ cpuS s).1.length ((du_ cpuS s).1.flatMap do_) := by
 have hlq := h.lq
 have hlw := h.lqd
 have x0 := h.c0
 obtain ⟨i0, hi, hz0, hz1, hz2⟩ := info_parts xo_
 have HI := h4_ hi hz0 hz1 hz2
 clear hi hz0 hz1 hz2
 obtain ⟨n, s1, en⟩ : ∃ n t, numS s = (n, t) := ⟨_, _, rfl⟩
 have hnl : s1.rest.length ≤ s.rest.length := by have := gt_ s; rw [en] at this; exact this
 have EN := h1_ en
 have HH := h1_ h
 clear h en
 go_enter Tryz.func53, Tryz.ntmps53
 go_wp2_with fail
 go_at_call 47
 refine (dnum qd q s _ HH.out).mono ?_
 rintro e w1 ⟨rfl, ho1, hd1⟩
 rw [EN.out] at hd1 ⊢
 have H1 := h2_ ho1 hd1
 clear ho1 hd1 x0
 dsimp only
 go_wp2_with fail
 go_loopw [6, 7] (fun v i wr => ∃ (k : Nat) (vs : List CpuD) (sk : RS), i = .int .i64 k ∧ vs.length = k ∧ k ≤ n ∧ b3_ cpuS n s1 = (vs ++ (b3_ cpuS (n - k) sk).1, (b3_ cpuS (n - k) sk).2) ∧ wr.ownsRow w.heap.size 70 17 v k (vs.flatMap do_) ∧ DR wr qd q sk ∧ Only (DS qd q) w wr ∧ k + sk.rest.length ≤ s1.rest.length) (fun _ i _ => n - (RowKit.intOf i).toNat)
 case atStart => exact ⟨0, [], s1, rfl, rfl, Nat.zero_le _, rfl, World.ownsRow_nil _ _ _ _, H1.out.2, H1.out.1.mono (fun _ _ h => .inl h), by omega⟩
 case round =>
  obtain ⟨k, vs, sk, rfl, hvl, hkn, hloop, hown, hd, ho, hln⟩ := hrel
  have x0 := hd.c0
  have x1 := hd.c1
  have xf := hd.f1
  have hsz := ho.size
  have HR := h5_ hvl hloop hown hd ho
  clear hvl hloop hown hd ho
  by_cases hgo : k < n ∧ sk.rest ≠ [] ∧ sk.db = false
  · obtain ⟨hlt, hne, hdb⟩ := hgo
    have hpos : 0 < sk.rest.length := List.length_pos_iff.2 hne
    rw [hdb] at x1
    have HE := h2_ hne hdb
    clear hne hdb
    go_wp2_with (go_at_call 48; refine (el_ q sk.rest sk.wb _ HR.out.2.2.2.1.read).mono ?_; rintro e w2 ⟨rfl, rfl⟩)
    go_at_call 52
    refine (vg_ qd q sk _ HR.out.2.2.2.1).mono ?_
    rintro e w2 ⟨rfl, ho2, hd2⟩
    obtain ⟨L, hL⟩ : ∃ L, L = do_ (cpuS sk).1 := ⟨_, rfl⟩
    rw [← hL]
    obtain ⟨hll, hl1⟩ := cl_cpu (cpuS sk).1 (ho_ sk)
    rw [← hL] at hll hl1
    have hfold := hp_ L [Value.int .i64 0, Value.int .i64 0, Value.int .i64 0, Value.int .i64 0, Value.int .i64 0, Value.int .i64 0, Value.int .i64 0, Value.int .i64 0, Value.int .i64 0, Value.int .i64 0, Value.int .i64 0, Value.int .i64 0, Value.int .i64 0, Value.int .i64 0, Value.int .i64 0, Value.int .i64 0, Value.int .i64 0] (by rw [hll]; rfl)
    have hlen : k + 1 ≤ 68719476736 := by omega
    have HN := h5_ ho2 hd2 hL hll hl1
    have hown2 := ar_ HR.out.2.2.1 ho2 (fun b hb => by rcases hb with rfl | rfl <;> omega)
    have HO := h1_ hown2
    have lw2 := ho2.size
    clear ho2 hd2 hL hl1 hown2
    dsimp only
    go_wp2_with (at_builtin; refine wpList_append_lies _ rfl _ _ _ rfl w.heap.size 70 i0 (.agg (List.replicate 17 (Value.int .i64 0)).toArray) 17 136 Tryz.underlying71 HI.out.1 HI.out.2.1 HI.out.2.2.1 HI.out.2.2.2 rfl (by omega) _ _ _ rfl (HO.out.alloc _) ⟨w2.heap.size, 0, none⟩ 1 1 L rfl (by rw [HN.out.2.2.2.1]) (World.news_of_block (cs := L.toArray) (t := 70) (fr := (0, 0)) (heap_alloc_new w2 _)) HN.out.2.2.2.2 (by omega) (by unfold maxLen; omega) (by omega) (by simp; omega) (w2.heap.size + 1) (by simp) ?_)
    intro g1 cap1 w3 hown1 hgrow hat hlt1
    have HG := h4_ hown1 hgrow hat hlt1
    clear hown1 hgrow hat hlt1 hfold hll
    go_wp2
    go_roundw
    case rel =>
     obtain ⟨hown1, hgrow, hat, hlt1⟩ := HG.out
     obtain ⟨ho2, hd2, hL, hll, hl1⟩ := HN.out
     obtain ⟨hvl, hloop, hown, hd, ho⟩ := HR.out
     have bB : Below w.heap.size w2 w3 := ((Below.refl w.heap.size w2).alloc (by omega) _).grown hgrow (by simp; omega) (fun b hb => (HO.out.lt b hb).1)
     have he := i0_ sk
     refine ⟨k + 1, vs ++ [(cpuS sk).1], (cpuS sk).2, rfl, by rw [List.length_append, hvl]; rfl, by omega, j3_ hlt HE.out.1 HE.out.2 hloop, ?_, ⟨(bB.block _ (by omega)).trans hd2.head, (bB.block _ (by omega)).trans hd2.read, hd2.len⟩, (ho.trans ho2).then (T := fun b => w.heap.size ≤ b) (Only.of_below_le bB (fun _ _ h => h)) (fun b hb h => by omega), ?_⟩
     · rw [List.flatMap_append]
       have e1 : [(cpuS sk).1].flatMap do_ = L := by rw [hL]; simp
       rw [e1]
       exact hown1
     · have := he.2 HE.out.1
       omega
    case measure => simp [RowKit.intOf]; omega
  · obtain ⟨a, c, rfl⟩ : ∃ a c, u6 = .slice a k c := by
     rcases HR.out.2.2.1.2 with ⟨h1, h2⟩ | ⟨g, cap, cur, h1, _⟩
     · exact ⟨_, _, by rw [h1, h2]⟩
     · exact ⟨_, _, h1⟩
    obtain ⟨bd, hbd⟩ : ∃ x, sk.db = x := ⟨_, rfl⟩
    rw [hbd] at x1
    have HB := h1_ hbd
    clear hbd
    by_cases hk : k < n
    · have hne : ¬ k = n := by omega
      have hneb : ((k : Int) != (n : Int)) = true := by simp; omega
      by_cases hr : sk.rest = []
      · have hz : sk.rest.length = 0 := by rw [hr]; rfl
        cases bd
        · skip
          clear hr
          go_wp2_with (go_at_call 48; refine (el_ q sk.rest sk.wb _ HR.out.2.2.2.1.read).mono ?_; rintro e w2 ⟨rfl, rfl⟩)
          go_ret
          obtain ⟨hvl, hloop, hown, hd, ho⟩ := HR.out
          have hend := bu_ EN.out (bk_ hkn hgo hloop)
          rw [hend]
          have oS : Only (· = qd) wr (wr.setCell ⟨qd, 1, none⟩ (.bool true)) := (Only.refl _ _).setCell _ _ (.inl rfl)
          refine ⟨_, rfl, ho.then (oS.mono (T := DS qd q) (fun _ _ h => .inr h)) (fun _ _ h => h), ⟨(aj_ hd.head 1 (.bool true)).trans (congrArg (fun x => some (Obj.cells #[Value.pointer (some ⟨q, 0, none⟩), Value.bool x] 95 (0, 0))) (by rw [HB.out, hvl, decide_eq_true hne]; rfl)), oS.kept hd.read (Ne.symm hd.ne), hd.len⟩, ?_⟩
          rw [hvl]
          exact ar_ hown oS (fun b hb => by omega)
        · skip
          clear hr
          go_wp2_with (go_at_call 48; refine (el_ q sk.rest sk.wb _ HR.out.2.2.2.1.read).mono ?_; rintro e w2 ⟨rfl, rfl⟩)
          go_ret
          obtain ⟨hvl, hloop, hown, hd, ho⟩ := HR.out
          have hend := bu_ EN.out (bk_ hkn hgo hloop)
          rw [hend]
          have oS : Only (· = qd) wr (wr.setCell ⟨qd, 1, none⟩ (.bool true)) := (Only.refl _ _).setCell _ _ (.inl rfl)
          refine ⟨_, rfl, ho.then (oS.mono (T := DS qd q) (fun _ _ h => .inr h)) (fun _ _ h => h), ⟨(aj_ hd.head 1 (.bool true)).trans (congrArg (fun x => some (Obj.cells #[Value.pointer (some ⟨q, 0, none⟩), Value.bool x] 95 (0, 0))) (by rw [HB.out]; rfl)), oS.kept hd.read (Ne.symm hd.ne), hd.len⟩, ?_⟩
          rw [hvl]
          exact ar_ hown oS (fun b hb => by omega)
      · have hpos : 0 < sk.rest.length := List.length_pos_iff.2 hr
        obtain rfl : bd = true := by
         cases bd
         · exact absurd ⟨hk, hr, HB.out⟩ hgo
         · rfl
        skip
        go_wp2_with (go_at_call 48; refine (el_ q sk.rest sk.wb _ HR.out.2.2.2.1.read).mono ?_; rintro e w2 ⟨rfl, rfl⟩)
        go_ret
        obtain ⟨hvl, hloop, hown, hd, ho⟩ := HR.out
        have hend := bu_ EN.out (bk_ hkn hgo hloop)
        rw [hend]
        have oS : Only (· = qd) wr (wr.setCell ⟨qd, 1, none⟩ (.bool true)) := (Only.refl _ _).setCell _ _ (.inl rfl)
        refine ⟨_, rfl, ho.then (oS.mono (T := DS qd q) (fun _ _ h => .inr h)) (fun _ _ h => h), ⟨(aj_ hd.head 1 (.bool true)).trans (congrArg (fun x => some (Obj.cells #[Value.pointer (some ⟨q, 0, none⟩), Value.bool x] 95 (0, 0))) (by rw [HB.out]; rfl)), oS.kept hd.read (Ne.symm hd.ne), hd.len⟩, ?_⟩
        rw [hvl]
        exact ar_ hown oS (fun b hb => by omega)
    · obtain rfl : k = n := by omega
      cases bd
      · skip
        skip
        go_wp2_with (go_at_call 48; refine (el_ q sk.rest sk.wb _ HR.out.2.2.2.1.read).mono ?_; rintro e w2 ⟨rfl, rfl⟩)
        go_ret
        obtain ⟨hvl, hloop, hown, hd, ho⟩ := HR.out
        have hend := bu_ EN.out (bk_ hkn hgo hloop)
        rw [hend]
        have oS : Only (· = qd) wr (wr.setCell ⟨qd, 1, none⟩ (.bool false)) := (Only.refl _ _).setCell _ _ (.inl rfl)
        refine ⟨_, rfl, ho.then (oS.mono (T := DS qd q) (fun _ _ h => .inr h)) (fun _ _ h => h), ⟨(aj_ hd.head 1 (.bool false)).trans (congrArg (fun x => some (Obj.cells #[Value.pointer (some ⟨q, 0, none⟩), Value.bool x] 95 (0, 0))) (by rw [HB.out, hvl]; simp)), oS.kept hd.read (Ne.symm hd.ne), hd.len⟩, ?_⟩
        rw [hvl]
        exact ar_ hown oS (fun b hb => by omega)
      · skip
        skip
        go_wp2_with (go_at_call 48; refine (el_ q sk.rest sk.wb _ HR.out.2.2.2.1.read).mono ?_; rintro e w2 ⟨rfl, rfl⟩)
        go_ret
        obtain ⟨hvl, hloop, hown, hd, ho⟩ := HR.out
        have hend := bu_ EN.out (bk_ hkn hgo hloop)
        rw [hend]
        have oS : Only (· = qd) wr (wr.setCell ⟨qd, 1, none⟩ (.bool true)) := (Only.refl _ _).setCell _ _ (.inl rfl)
        refine ⟨_, rfl, ho.then (oS.mono (T := DS qd q) (fun _ _ h => .inr h)) (fun _ _ h => h), ⟨(aj_ hd.head 1 (.bool true)).trans (congrArg (fun x => some (Obj.cells #[Value.pointer (some ⟨q, 0, none⟩), Value.bool x] 95 (0, 0))) (by rw [HB.out]; rfl)), oS.kept hd.read (Ne.symm hd.ne), hd.len⟩, ?_⟩
        rw [hvl]
        exact ar_ hown oS (fun b hb => by omega)
end
section
open Go.RowKit Wire
attribute [local go_sem] ak_ af_
attribute [local irreducible] repS cpuS modS strS chkS
def fv_ (t : ThrD) (v : Value) : List Value := t.1.map (Value.int .i64) ++ [.int .i64 t.2.1, .int .i64 t.2.2.1, .int .i64 t.2.2.2.1, .int .i64 t.2.2.2.2.1, v]
theorem list17 : ∀ l : List Int, l.length = 17 → ∃ c0 c1 c2 c3 c4 c5 c6 c7 c8 c9 c10 c11 c12 c13 c14 c15 c16, l = [c0, c1, c2, c3, c4, c5, c6, c7, c8, c9, c10, c11, c12, c13, c14, c15, c16] := by
 intro l h
 match l, h with
 | [c0, c1, c2, c3, c4, c5, c6, c7, c8, c9, c10, c11, c12, c13, c14, c15, c16], _ => exact ⟨c0, c1, c2, c3, c4, c5, c6, c7, c8, c9, c10, c11, c12, c13, c14, c15, c16, rfl⟩
theorem cpu_at {qd q : Nat} {s t : RS} {c0 c1 c2 c3 c4 c5 c6 c7 c8 c9 c10 c11 c12 c13 c14 c15 c16 : Int} (e : cpuS s = ([c0, c1, c2, c3, c4, c5, c6, c7, c8, c9, c10, c11, c12, c13, c14, c15, c16], t)) (w : World) (h : DR w qd q s) : Calls Tryz.prog 52 #[.pointer (some ⟨qd, 0, none⟩)] w fun e w' => e = .returned (.agg #[.int .i64 c0, .int .i64 c1, .int .i64 c2, .int .i64 c3, .int .i64 c4, .int .i64 c5, .int .i64 c6, .int .i64 c7, .int .i64 c8, .int .i64 c9, .int .i64 c10, .int .i64 c11, .int .i64 c12, .int .i64 c13, .int .i64 c14, .int .i64 c15, .int .i64 c16]) ∧ Only (DS qd q) w w' ∧ DR w' qd q t := by
 have := vg_ qd q s w h
 rw [e] at this
 exact this
theorem dthread (qd q : Nat) (s : RS) (hsm : s.rest.length ≤ 68719476736) (w : World) (h : DR w qd q s) :
 Calls Tryz.prog 26 #[.pointer (some ⟨qd, 0, none⟩)] w fun e w' => ∃ v, e = .returned (.agg (fv_ (thrS s).1 v).toArray) ∧ Only (DS qd q) w w' ∧ DR w' qd q (thrS s).2 ∧ w'.ownsRow w.heap.size 70 17 v (thrS s).1.2.2.2.2.2.length ((thrS s).1.2.2.2.2.2.flatMap do_) := by
 have hcl := ho_ s
 obtain ⟨c0, c1, c2, c3, c4, c5, c6, c7, c8, c9, c10, c11, c12, c13, c14, c15, c16, hc⟩ := list17 _ hcl
 obtain ⟨s1, hs1⟩ : ∃ t, t = (cpuS s).2 := ⟨_, rfl⟩
 have e0 : cpuS s = ([c0, c1, c2, c3, c4, c5, c6, c7, c8, c9, c10, c11, c12, c13, c14, c15, c16], s1) := by rw [← hc, hs1]
 have E0 := h1_ e0
 obtain ⟨v1, s2, e1⟩ : ∃ v t, intS s1 = (v, t) := ⟨_, _, rfl⟩
 have E1 := h1_ e1
 obtain ⟨v2, s3, e2⟩ : ∃ v t, intS s2 = (v, t) := ⟨_, _, rfl⟩
 have E2 := h1_ e2
 obtain ⟨v3, s4, e3⟩ : ∃ v t, intS s3 = (v, t) := ⟨_, _, rfl⟩
 have E3 := h1_ e3
 obtain ⟨v4, s5, e4⟩ : ∃ v t, intS s4 = (v, t) := ⟨_, _, rfl⟩
 have E4 := h1_ e4
 obtain ⟨l5, s6, e5⟩ : ∃ v t, du_ cpuS s5 = (v, t) := ⟨_, _, rfl⟩
 have E5 := h1_ e5
 have hfin : thrS s = (([c0, c1, c2, c3, c4, c5, c6, c7, c8, c9, c10, c11, c12, c13, c14, c15, c16], v1, v2, v3, v4, l5), s6) := by
  unfold thrS
  simp only [dn_, e0, e1, e2, e3, e4, e5]
 have hle : s5.rest.length ≤ s.rest.length := by
  have a0 := (i0_ s).1
  have a1 := (b8_ s1).1
  have a2 := (b8_ s2).1
  have a3 := (b8_ s3).1
  have a4 := (b8_ s4).1
  rw [e0] at a0; rw [e1] at a1; rw [e2] at a2; rw [e3] at a3; rw [e4] at a4
  exact Nat.le_trans a4 (Nat.le_trans a3 (Nat.le_trans a2 (Nat.le_trans a1 a0)))
 rw [hfin]
 dsimp only
 have hlq := h.lq
 have hlw := h.lqd
 have HH := h1_ h
 clear h hfin e0 e1 e2 e3 e4 e5 hs1 hc hcl
 go_enter Tryz.func26, Tryz.ntmps26
 go_upto_region 1 with fail
 refine ac_ fun V hV => ?_
 have vB : Below w.heap.size w V := by rw [← hV]; go_grown
 have vD := HH.out.below vB
 have v20 : V.heap[w.heap.size]? = some (.cells #[.int .i64 0, .int .i64 0, .int .i64 0, .int .i64 0, .int .i64 0, .int .i64 0, .int .i64 0, .int .i64 0, .int .i64 0, .int .i64 0, .int .i64 0, .int .i64 0, .int .i64 0, .int .i64 0, .int .i64 0, .int .i64 0, .int .i64 0, .int .i64 0, .int .i64 0, .int .i64 0, .int .i64 0, .slice none 0 0] 73 (0, 0)) := by rw [← hV]; exact heap_alloc_new _ _
 have lV : w.heap.size ≤ V.heap.size := vB.size
 have HV := h3_ vB vD v20
 clear hV vB vD v20
 refine wq_ 16 [1, 6, 11, 13] (DS qd q) [.pt qd 0, .val (.agg #[.int .i64 c0, .int .i64 c1, .int .i64 c2, .int .i64 c3, .int .i64 c4, .int .i64 c5, .int .i64 c6, .int .i64 c7, .int .i64 c8, .int .i64 c9, .int .i64 c10, .int .i64 c11, .int .i64 c12, .int .i64 c13, .int .i64 c14, .int .i64 c15, .int .i64 c16]), .pt qd 0, .pt qd 0, .pt qd 0, .pt q 0, .val (.int .i64 v1), .pt qd 0, .pt qd 0, .pt qd 0, .pt q 0, .val (.int .i64 v2), .pt qd 0, .val (.agg #[.int .i64 v3, .int .i64 v4]), .val (.agg #[.int .i64 c0, .int .i64 c1, .int .i64 c2, .int .i64 c3, .int .i64 c4, .int .i64 c5, .int .i64 c6, .int .i64 c7, .int .i64 c8, .int .i64 c9, .int .i64 c10, .int .i64 c11, .int .i64 c12, .int .i64 c13, .int .i64 c14, .int .i64 c15, .int .i64 c16, .int .i64 v1, .int .i64 v2, .int .i64 v3, .int .i64 v4, .slice none 0 0]), .more (fun v x => ∃ b, v = .pointer (some ⟨b, 0, none⟩) ∧ V.heap.size ≤ b ∧ x.heap[b]? = some (.cells #[.int .i64 0, .int .i64 0, .int .i64 0, .int .i64 0, .int .i64 0, .int .i64 0, .int .i64 0, .int .i64 0, .int .i64 0, .int .i64 0, .int .i64 0, .int .i64 0, .int .i64 0, .int .i64 0, .int .i64 0, .int .i64 0, .int .i64 0, .int .i64 0, .int .i64 0, .int .i64 0, .int .i64 0, .slice none 0 0] 73 (0, 0))) (fun v x y ho h => by obtain ⟨b, h1, h2, h3⟩ := h; exact ⟨b, h1, h2, ho.kept h3 (by unfold DS; omega)⟩)] (fun k x => DR x qd q (stAt [s, s1, s2, s3, s5] k)) (by kernel_rfl) (by kernel_rfl) (HV.out.2.1.drew) ?_ ?_
 · simp only [a4_, List.take]
   refine ⟨?_, ?_, ?_, ?_, ?_, ?_, ?_, ?_, ?_, ?_, ?_, ?_, ?_, ?_, ?_, ?_, trivial⟩
   all_goals intro k a wr ho hJ hk hr hf hd
   · have h0 : zp_ a 0 qd 0 := (hf 0).trans rfl
     exact dp_ hJ (by simp [execOp, h0, go_sem])
   · have h4 : z_ a 4 _ := hd 0
     obtain rfl := hk 0 (by decide) rfl
     exact a0_ (f := 52) (args := #[.pointer (some ⟨qd, 0, none⟩)]) (by simp [execOp, h4, go_sem]) ((cpu_at E0.out _ hJ).mono fun e w' ⟨he, ho, hw⟩ => ⟨_, he, rfl, ho, hw⟩)
   · have h0 : zp_ a 0 qd 0 := (hf 0).trans rfl
     exact dp_ hJ (by simp [execOp, h0, go_sem])
   · have h6 : z_ a 6 _ := hd 2
     exact dp_ hJ (by simp [execOp, h6, go_sem])
   · have h7 : z_ a 7 _ := hd 3
     exact dp_ hJ (by simp [execOp, h7, go_sem])
   · have h8 : z_ a 8 _ := hd 4
     have hc := hJ.c0
     exact dp_ hJ (by simp [execOp, h8, hc, go_sem])
   · have h9 : z_ a 9 _ := hd 5
     obtain rfl := hk 1 (by decide) rfl
     exact a0_ (f := 50) (args := #[.pointer (some ⟨q, 0, none⟩)]) (by simp [execOp, h9, go_sem]) ((ko_ E1.out _ hJ).mono fun e w' ⟨he, ho, hw⟩ => ⟨_, he, rfl, ho.mono (fun _ _ h => .inl h), hw⟩)
   · have h0 : zp_ a 0 qd 0 := (hf 0).trans rfl
     exact dp_ hJ (by simp [execOp, h0, go_sem])
   · have h11 : z_ a 11 _ := hd 7
     exact dp_ hJ (by simp [execOp, h11, go_sem])
   · have h12 : z_ a 12 _ := hd 8
     exact dp_ hJ (by simp [execOp, h12, go_sem])
   · have h13 : z_ a 13 _ := hd 9
     have hc := hJ.c0
     exact dp_ hJ (by simp [execOp, h13, hc, go_sem])
   · have h14 : z_ a 14 _ := hd 10
     obtain rfl := hk 2 (by decide) rfl
     exact a0_ (f := 50) (args := #[.pointer (some ⟨q, 0, none⟩)]) (by simp [execOp, h14, go_sem]) ((ko_ E2.out _ hJ).mono fun e w' ⟨he, ho, hw⟩ => ⟨_, he, rfl, ho.mono (fun _ _ h => .inl h), hw⟩)
   · have h0 : zp_ a 0 qd 0 := (hf 0).trans rfl
     exact dp_ hJ (by simp [execOp, h0, go_sem])
   · have h16 : z_ a 16 _ := hd 12
     obtain rfl := hk 3 (by decide) rfl
     exact a0_ (f := 51) (args := #[.pointer (some ⟨qd, 0, none⟩)]) (by simp [execOp, h16, go_sem]) ((dspan' E3.out E4.out _ hJ).mono fun e w' ⟨he, ho, hw⟩ => ⟨_, he, rfl, ho.mono (fun _ _ h => .inl h), hw⟩)
   · have h5 : z_ a 5 _ := hd 1
     have h10 : z_ a 10 _ := hd 6
     have h15 : z_ a 15 _ := hd 11
     have h17 : z_ a 17 _ := hd 13
     exact dp_ hJ (by simp [execOp, h5, h10, h15, h17, go_sem])
   · exact bc_ (v := .pointer (some ⟨wr.heap.size, 0, none⟩)) (w' := wr.alloc (.cells #[.int .i64 0, .int .i64 0, .int .i64 0, .int .i64 0, .int .i64 0, .int .i64 0, .int .i64 0, .int .i64 0, .int .i64 0, .int .i64 0, .int .i64 0, .int .i64 0, .int .i64 0, .int .i64 0, .int .i64 0, .int .i64 0, .int .i64 0, .int .i64 0, .int .i64 0, .int .i64 0, .int .i64 0, .slice none 0 0] 73)) (by simp [execOp, go_sem]) ⟨⟨_, rfl, ho.size, heap_alloc_new _ _⟩, (Only.refl _ _).alloc _, hJ.below ((Below.refl _ _).alloc (Nat.le_refl _) _)⟩
 · intro fv w2 ho2 hj hs
   have q3 := hs 15 (by decide)
   rw [seqv hs [4, 5, 6, 7, 8, 9, 10, 11, 12, 13, 14, 15, 16, 17, 18, 3] (by kernel_rfl)]
   simp only [actV, Act.put, List.drop, List.length, List.setIfInBounds_toArray, List.set_cons_zero, List.set_cons_succ]
   clear hs
   obtain ⟨b, g3, hb3, k3⟩ : ∃ b, fv 3 = .pointer (some ⟨b, 0, none⟩) ∧ V.heap.size ≤ b ∧ w2.heap[b]? = some (.cells #[.int .i64 0, .int .i64 0, .int .i64 0, .int .i64 0, .int .i64 0, .int .i64 0, .int .i64 0, .int .i64 0, .int .i64 0, .int .i64 0, .int .i64 0, .int .i64 0, .int .i64 0, .int .i64 0, .int .i64 0, .int .i64 0, .int .i64 0, .int .i64 0, .int .i64 0, .int .i64 0, .int .i64 0, .slice none 0 0] 73 (0, 0)) := q3
   simp only [g3]
   clear g3
   have k2 := ho2.kept HV.out.2.2 (by unfold DS; omega)
   have l2 := lt_of_block k2
   have l3 := lt_of_block k3
   have lV2 := lt_of_block HV.out.2.2
   have hj' : DR w2 qd q s5 := hj
   have HJ := h4_ ho2 hj' k2 k3
   clear ho2 hj hj' k2
   go_upto_region 2 with ((with_reducible refine ad_ ?_); refine sr_ rfl rfl (h := ?_); (try simp only [World.setRow_alloc_new]))
   refine ac_ fun X hX => ?_
   obtain ⟨ho2, hj, k2, _⟩ := HJ.out
   have oX := (Only.refl (· = b) w2).setRow b #[.int .i64 c0, .int .i64 c1, .int .i64 c2, .int .i64 c3, .int .i64 c4, .int .i64 c5, .int .i64 c6, .int .i64 c7, .int .i64 c8, .int .i64 c9, .int .i64 c10, .int .i64 c11, .int .i64 c12, .int .i64 c13, .int .i64 c14, .int .i64 c15, .int .i64 c16, .int .i64 v1, .int .i64 v2, .int .i64 v3, .int .i64 v4, .slice none 0 0] (.inl rfl)
   have xb := setRow_heap w2 b _ #[.int .i64 c0, .int .i64 c1, .int .i64 c2, .int .i64 c3, .int .i64 c4, .int .i64 c5, .int .i64 c6, .int .i64 c7, .int .i64 c8, .int .i64 c9, .int .i64 c10, .int .i64 c11, .int .i64 c12, .int .i64 c13, .int .i64 c14, .int .i64 c15, .int .i64 c16, .int .i64 v1, .int .i64 v2, .int .i64 v3, .int .i64 v4, .slice none 0 0] _ _ k3
   have xj : DR (w2.setRow b #[.int .i64 c0, .int .i64 c1, .int .i64 c2, .int .i64 c3, .int .i64 c4, .int .i64 c5, .int .i64 c6, .int .i64 c7, .int .i64 c8, .int .i64 c9, .int .i64 c10, .int .i64 c11, .int .i64 c12, .int .i64 c13, .int .i64 c14, .int .i64 c15, .int .i64 c16, .int .i64 v1, .int .i64 v2, .int .i64 v3, .int .i64 v4, .slice none 0 0]) qd q s5 := hj.other oX (by omega) (by omega)
   have xk := oX.kept k2 (show ¬ w.heap.size = b by omega)
   rw [hX] at oX xb xj xk
   have xo := (((Only.of_below HV.out.1).trans ho2).mono (T := fun k => DS qd q k ∨ w.heap.size ≤ k) (fun _ _ h => .inl h)).then oX (fun k hk e => .inr (by omega))
   have lwX : w.heap.size < X.heap.size := by have := lt_of_block xk; omega
   have HX := h4_ xb xj xk xo
   clear ho2 hj k2 oX xb xj xk xo hX HJ k3
   go_wp2_with fail
   go_at_call 53
   refine (vh_ qd q s5 (by omega) _ HX.out.2.1).mono ?_
   rintro e w3 ⟨v, rfl, ho3, hd3, hown3⟩
   rw [E5.out] at hd3 hown3
   dsimp only at hd3 hown3
   have nbq : ¬ DS qd q b := by unfold DS; omega
   have nwq : ¬ DS qd q w.heap.size := by unfold DS; omega
   have nwb : w.heap.size ≠ b := by omega
   have xk3 := ho3.kept HX.out.2.2.1 nwq
   have xb3 := ho3.kept HX.out.1 nbq
   have y21 := al_ xb3 21 rfl
   have yf := ag_ xb3 21
   have lX3 := ho3.size
   have lb3 := lt_of_block HX.out.1
   have H3 := h5_ ho3 hd3 hown3 xk3 xb3
   obtain ⟨a, n, c, rfl⟩ : ∃ a n c, v = .slice a n c := by
    rcases hown3.2 with ⟨h1, h2⟩ | ⟨g, cap, cur, h1, _⟩
    · exact ⟨_, _, _, h1⟩
    · exact ⟨_, _, _, h1⟩
   clear ho3 hd3 hown3 xk3 xb3
   dsimp only
   go_upto_region 3 with fail
   refine ac_ fun Z hZ => ?_
   obtain ⟨ho3, hd3, hown3, xk3, xb3⟩ := H3.out
   have o1 : Only (· = b) w3 (w3.setCell ⟨b, 21, none⟩ (.slice a n c)) := (Only.refl _ w3).setCell _ _ (.inl rfl)
   have zb : (w3.setCell ⟨b, 21, none⟩ (.slice a n c)).heap[b]? = some (.cells #[.int .i64 c0, .int .i64 c1, .int .i64 c2, .int .i64 c3, .int .i64 c4, .int .i64 c5, .int .i64 c6, .int .i64 c7, .int .i64 c8, .int .i64 c9, .int .i64 c10, .int .i64 c11, .int .i64 c12, .int .i64 c13, .int .i64 c14, .int .i64 c15, .int .i64 c16, .int .i64 v1, .int .i64 v2, .int .i64 v3, .int .i64 v4, .slice a n c] 73 (0, 0)) := aj_ xb3 21 _
   have zk := o1.kept xk3 nwb
   have zd := hd3.other o1 (by unfold DS at nbq; omega) (by unfold DS at nbq; omega)
   have zo : Only (fun k => DS qd q k ∨ w.heap.size ≤ k) w (w3.setCell ⟨b, 21, none⟩ (.slice a n c)) := (HX.out.2.2.2.trans (ho3.mono (fun _ _ h => .inl h))).then o1 (fun k hk e => .inr (by omega))
   have hgb : ∀ g, Value.ownBlock (.slice a n c) = some g → g ≠ b := by
    intro g hg
    have := (hown3.lt g hg).1
    omega
   have zown : (w3.setCell ⟨b, 21, none⟩ (.slice a n c)).ownsRow X.heap.size 70 17 (.slice a n c) l5.length (l5.flatMap do_) := by
    refine ⟨hown3.1, ?_⟩
    rcases hown3.2 with h0 | ⟨g, cap, cur, h1, h2, h3, h4⟩
    · exact .inl h0
    · exact .inr ⟨g, cap, cur, h1, h2, o1.kept h3 (hgb g (by rw [h1]; rfl)), h4⟩
   rw [hZ] at zb zk zd zo zown
   have HZ := h4_ zb zd zo zown
   have HG := h1_ hgb
   have lz := lt_of_block zk
   clear ho3 hd3 hown3 xk3 xb3 o1 zd zo zown hZ H3 hgb
   go_wp2_with (first
    | (refine wpList_load_row rfl 73 (.tmp 3) rfl b rfl 73 #[.int .i64 c0, .int .i64 c1, .int .i64 c2, .int .i64 c3, .int .i64 c4, .int .i64 c5, .int .i64 c6, .int .i64 c7, .int .i64 c8, .int .i64 c9, .int .i64 c10, .int .i64 c11, .int .i64 c12, .int .i64 c13, .int .i64 c14, .int .i64 c15, .int .i64 c16, .int .i64 v1, .int .i64 v2, .int .i64 v3, .int .i64 v4, .slice a n c] (0, 0) _ zb Tryz.underlying73 rfl (by kernel_rfl) ?_)
    | ((with_reducible refine ad_ ?_); refine sr_ rfl rfl (h := ?_); (try simp only [World.setRow_alloc_new])))
   refine bodyPost_ret (results_cell_row rfl _ _ w.heap.size _ _ _ _ rfl (setRow_heap _ _ _ _ _ _ zk) Tryz.underlying73 rfl (by kernel_rfl)) rfl ?_
   obtain ⟨zb, zd, zo, zown⟩ := HZ.out
   have oS := (Only.refl (· = w.heap.size) Z).setRow w.heap.size #[.int .i64 c0, .int .i64 c1, .int .i64 c2, .int .i64 c3, .int .i64 c4, .int .i64 c5, .int .i64 c6, .int .i64 c7, .int .i64 c8, .int .i64 c9, .int .i64 c10, .int .i64 c11, .int .i64 c12, .int .i64 c13, .int .i64 c14, .int .i64 c15, .int .i64 c16, .int .i64 v1, .int .i64 v2, .int .i64 v3, .int .i64 v4, .slice a n c] (.inl rfl)
   refine ⟨.slice a n c, rfl, (zo.then oS (fun k hk h => by omega)).mono (fun k hk h => by rcases h with h | h; exact h; exact absurd hk (by omega)), zd.other oS (by omega) (by omega), ?_⟩
   refine ⟨zown.1, ?_⟩
   rcases zown.2 with h0 | ⟨g, cap, cur, h1, h2, h3, h4⟩
   · exact .inl h0
   · exact .inr ⟨g, cap, cur, h1, by omega, oS.kept h3 (by omega), h4⟩
end
section
open Go.RowKit Wire
attribute [local go_sem] ak_ af_
attribute [local irreducible] repS cpuS modS strS chkS thrS
theorem xp_ : (Tryz.prog.info? 73).map (fun i => (i.zero, i.size, i.bytes)) = some (some (.agg #[.int .i64 0, .int .i64 0, .int .i64 0, .int .i64 0, .int .i64 0, .int .i64 0, .int .i64 0, .int .i64 0, .int .i64 0, .int .i64 0, .int .i64 0, .int .i64 0, .int .i64 0, .int .i64 0, .int .i64 0, .int .i64 0, .int .i64 0, .int .i64 0, .int .i64 0, .int .i64 0, .int .i64 0, .slice none 0 0]), 22, 192) := by kernel_rfl
theorem cl_thr (t : ThrD) (ht : t.1.length = 17) (v : Value) (hv : v.oneCell' = true) : (fv_ t v).length = 22 ∧ ∀ u ∈ fv_ t v, u.oneCell' = true := by
 unfold fv_
 refine ⟨by simp [ht], fun u hu => ?_⟩
 rcases List.mem_append.1 hu with h | h
 · obtain ⟨y, _, rfl⟩ := List.mem_map.1 h; rfl
 · simp only [List.mem_cons, List.not_mem_nil, or_false] at h
   rcases h with rfl | rfl | rfl | rfl | rfl
   · rfl
   · rfl
   · rfl
   · rfl
   · exact hv
def fp_ (lo : Nat) (w : World) (vs : List ThrD) (xs : List Value) : Prop := ∀ i (h : i < vs.length), ∃ v, (∀ j u, (fv_ vs[i] v)[j]? = some u → xs[i * 22 + j]? = some u) ∧ vs[i].1.length = 17 ∧ w.ownsRow lo 70 17 v vs[i].2.2.2.2.2.length (vs[i].2.2.2.2.2.flatMap do_) ∧ ∀ c ∈ vs[i].2.2.2.2.2, c.length = 17
theorem fp_.keep {lo : Nat} {w w' : World} {vs : List ThrD} {xs : List Value} (h : fp_ lo w vs xs) (hk : ∀ g cur fr, lo ≤ g → w.heap[g]? = some (.cells cur 70 fr) → w'.heap[g]? = some (.cells cur 70 fr)) : fp_ lo w' vs xs := by
 intro i hi
 obtain ⟨v, h1, h2, h3, h4⟩ := h i hi
 refine ⟨v, h1, h2, ⟨h3.1, ?_⟩, h4⟩
 rcases h3.2 with h0 | ⟨g, cap, cur, a, b, c, d⟩
 · exact .inl h0
 · exact .inr ⟨g, cap, cur, a, b, hk g cur _ b c, d⟩
theorem fp_.snoc {lo : Nat} {w : World} {vs : List ThrD} {xs : List Value} (h : fp_ lo w vs xs) (hl : xs.length = vs.length * 22) (t : ThrD) (v : Value) (ht : t.1.length = 17) (ho : w.ownsRow lo 70 17 v t.2.2.2.2.2.length (t.2.2.2.2.2.flatMap do_)) (hc : ∀ c ∈ t.2.2.2.2.2, c.length = 17) : fp_ lo w (vs ++ [t]) (xs ++ fv_ t v) := by
 intro i hi
 by_cases hlt : i < vs.length
 · obtain ⟨u, h1, h2, h3, h4⟩ := h i hlt
   rw [List.getElem_append_left hlt]
   refine ⟨u, fun j x hj => ?_, h2, h3, h4⟩
   have := h1 j x hj
   rw [List.getElem?_append_left (List.getElem?_eq_some_iff.1 this).1]
   exact this
 · have e : i = vs.length := by rw [List.length_append] at hi; simp at hi; omega
   subst e
   rw [List.getElem_append_right (Nat.le_refl _)]
   simp only [Nat.sub_self, List.getElem_cons_zero]
   refine ⟨v, fun j x hj => ?_, ht, ho, hc⟩
   rw [List.getElem?_append_right (by omega), hl, Nat.add_sub_cancel_left]
   exact hj
theorem vi_ (qd q : Nat) (s : RS) (hsm : s.rest.length ≤ 68719476736) (w : World) (h : DR w qd q s) :
 Calls Tryz.prog 25 #[.pointer (some ⟨qd, 0, none⟩), .func (.func 26) #[.pointer (some ⟨qd, 0, none⟩)] #[]] w fun e w' => ∃ v xs, e = .returned v ∧ Only (DS qd q) w w' ∧ DR w' qd q (du_ thrS s).2 ∧ w'.ownsRow w.heap.size 73 22 v (du_ thrS s).1.length xs ∧ fp_ w.heap.size w' (du_ thrS s).1 xs := by
 have hlq := h.lq
 have hlw := h.lqd
 have x0 := h.c0
 obtain ⟨i0, hi, hz0, hz1, hz2⟩ := info_parts xp_
 have HI := h4_ hi hz0 hz1 hz2
 clear hi hz0 hz1 hz2
 obtain ⟨n, s1, en⟩ : ∃ n t, numS s = (n, t) := ⟨_, _, rfl⟩
 have hnl : s1.rest.length ≤ s.rest.length := by have := gt_ s; rw [en] at this; exact this
 have EN := h1_ en
 have HH := h1_ h
 clear h en
 go_enter Tryz.func25, Tryz.ntmps25
 go_wp2_with fail
 go_at_call 47
 refine (dnum qd q s _ HH.out).mono ?_
 rintro e w1 ⟨rfl, ho1, hd1⟩
 rw [EN.out] at hd1 ⊢
 have H1 := h2_ ho1 hd1
 clear ho1 hd1 x0
 dsimp only
 go_wp2_with fail
 go_loopw [6, 7] (fun v i wr => ∃ (k : Nat) (vs : List ThrD) (sk : RS), i = .int .i64 k ∧ vs.length = k ∧ k ≤ n ∧ b3_ thrS n s1 = (vs ++ (b3_ thrS (n - k) sk).1, (b3_ thrS (n - k) sk).2) ∧ (∃ xs, wr.ownsRow w.heap.size 73 22 v k xs ∧ fp_ w.heap.size wr vs xs) ∧ DR wr qd q sk ∧ Only (DS qd q) w wr ∧ k + sk.rest.length ≤ s1.rest.length) (fun _ i _ => n - (RowKit.intOf i).toNat)
 case atStart => exact ⟨0, [], s1, rfl, rfl, Nat.zero_le _, rfl, ⟨[], World.ownsRow_nil _ _ _ _, fun i hi => absurd hi (Nat.not_lt_zero _)⟩, H1.out.2, H1.out.1.mono (fun _ _ h => .inl h), by omega⟩
 case round =>
  obtain ⟨k, vs, sk, rfl, hvl, hkn, hloop, ⟨xs, hown, hthr⟩, hd, ho, hln⟩ := hrel
  have HT := h1_ hthr
  clear hthr
  have x0 := hd.c0
  have x1 := hd.c1
  have xf := hd.f1
  have hsz := ho.size
  have HR := h5_ hvl hloop hown hd ho
  clear hvl hloop hown hd ho
  by_cases hgo : k < n ∧ sk.rest ≠ [] ∧ sk.db = false
  · obtain ⟨hlt, hne, hdb⟩ := hgo
    have hpos : 0 < sk.rest.length := List.length_pos_iff.2 hne
    rw [hdb] at x1
    have HE := h2_ hne hdb
    clear hne hdb
    go_wp2_with (go_at_call 48; refine (el_ q sk.rest sk.wb _ HR.out.2.2.2.1.read).mono ?_; rintro e w2 ⟨rfl, rfl⟩)
    go_at_call 26
    refine (dthread qd q sk (by omega) _ HR.out.2.2.2.1).mono ?_
    rintro e w2 ⟨vv, rfl, ho2, hd2, hvo⟩
    obtain ⟨L, hL⟩ : ∃ L, L = fv_ (thrS sk).1 vv := ⟨_, rfl⟩
    rw [← hL]
    have hv1 : vv.oneCell' = true := by
     rcases hvo.2 with ⟨h1, h2⟩ | ⟨g, cap, cur, h1, _⟩
     · rw [h1]; rfl
     · rw [h1]; rfl
    obtain ⟨hll, hl1⟩ := cl_thr (thrS sk).1 (l1_ sk).1 vv hv1
    have HVO := h1_ hvo
    clear hvo hv1
    rw [← hL] at hll hl1
    have hfold := hp_ L [.int .i64 0, .int .i64 0, .int .i64 0, .int .i64 0, .int .i64 0, .int .i64 0, .int .i64 0, .int .i64 0, .int .i64 0, .int .i64 0, .int .i64 0, .int .i64 0, .int .i64 0, .int .i64 0, .int .i64 0, .int .i64 0, .int .i64 0, .int .i64 0, .int .i64 0, .int .i64 0, .int .i64 0, .slice none 0 0] (by rw [hll]; rfl)
    have hlen : k + 1 ≤ 68719476736 := by omega
    have HN := h5_ ho2 hd2 hL hll hl1
    have hown2 := ar_ HR.out.2.2.1 ho2 (fun b hb => by rcases hb with rfl | rfl <;> omega)
    have HO := h1_ hown2
    have lw2 := ho2.size
    clear ho2 hd2 hL hl1 hown2
    dsimp only
    go_wp2_with (at_builtin; refine wpList_append_lies _ rfl _ _ _ rfl w.heap.size 73 i0 (.agg #[.int .i64 0, .int .i64 0, .int .i64 0, .int .i64 0, .int .i64 0, .int .i64 0, .int .i64 0, .int .i64 0, .int .i64 0, .int .i64 0, .int .i64 0, .int .i64 0, .int .i64 0, .int .i64 0, .int .i64 0, .int .i64 0, .int .i64 0, .int .i64 0, .int .i64 0, .int .i64 0, .int .i64 0, .slice none 0 0]) 22 192 Tryz.underlying24 HI.out.1 HI.out.2.1 HI.out.2.2.1 HI.out.2.2.2 rfl (by omega) _ _ _ rfl (HO.out.alloc _) ⟨w2.heap.size, 0, none⟩ 1 1 L rfl (by rw [HN.out.2.2.2.1]) (World.news_of_block (cs := L.toArray) (t := 73) (fr := (0, 0)) (heap_alloc_new w2 _)) HN.out.2.2.2.2 (by omega) (by unfold maxLen; omega) (by omega) (by simp; omega) (w2.heap.size + 1) (by simp) ?_)
    intro g1 cap1 w3 hown1 hgrow hat hlt1
    have HG := h4_ hown1 hgrow hat hlt1
    clear hown1 hgrow hat hlt1 hfold hll
    go_wp2
    go_roundw
    case rel =>
     obtain ⟨hown1, hgrow, hat, hlt1⟩ := HG.out
     obtain ⟨ho2, hd2, hL, hll, hl1⟩ := HN.out
     obtain ⟨hvl, hloop, hown, hd, ho⟩ := HR.out
     have bB : Below w.heap.size w2 w3 := ((Below.refl w.heap.size w2).alloc (by omega) _).grown hgrow (by simp; omega) (fun b hb => (HO.out.lt b hb).1)
     have he := qv_ sk
     have hkeep : ∀ g cur fr, w.heap.size ≤ g → w2.heap[g]? = some (.cells cur 70 fr) → w3.heap[g]? = some (.cells cur 70 fr) := by
      intro g cur fr hg hc
      have hlt2 := lt_of_block hc
      rw [hgrow.block g (by simp; omega) (fun e => ?_)]
      · exact ae_ hc
      · rcases HO.out.2 with ⟨h1, _⟩ | ⟨g', cap, cur', h1, _, h3, _⟩
        · rw [h1] at e; simp [Value.ownBlock] at e
        · rw [h1] at e
          simp [Value.ownBlock] at e
          subst e
          rw [hc] at h3
          cases h3
     have ht2 : fp_ w.heap.size w2 vs xs := HT.out.keep (fun g cur fr hg hc => ho2.kept hc (by unfold DS; omega))
     have hvo := HVO.out
     have hvo3 : w3.ownsRow w.heap.size 70 17 vv (thrS sk).1.2.2.2.2.2.length ((thrS sk).1.2.2.2.2.2.flatMap do_) := by
      refine ⟨hvo.1, ?_⟩
      rcases hvo.2 with h0 | ⟨g, cap, cur, a, b, c, d⟩
      · exact .inl h0
      · exact .inr ⟨g, cap, cur, a, by omega, hkeep g cur _ (by omega) c, d⟩
     refine ⟨k + 1, vs ++ [(thrS sk).1], (thrS sk).2, rfl, by rw [List.length_append, hvl]; rfl, by omega, j3_ hlt HE.out.1 HE.out.2 hloop, ⟨xs ++ L, hown1, ?_⟩, ⟨(bB.block _ (by omega)).trans hd2.head, (bB.block _ (by omega)).trans hd2.read, hd2.len⟩, (ho.trans ho2).then (T := fun b => w.heap.size ≤ b) (Only.of_below_le bB (fun _ _ h => h)) (fun b hb h => by omega), ?_⟩
     · rw [hL]
       exact (ht2.keep hkeep).snoc (by rw [hown.1, hvl]) _ vv (l1_ sk).1 hvo3 (l1_ sk).2
     · have := he.2 HE.out.1
       omega
    case measure => simp [RowKit.intOf]; omega
  · obtain ⟨a, c, rfl⟩ : ∃ a c, u6 = .slice a k c := by
     rcases HR.out.2.2.1.2 with ⟨h1, h2⟩ | ⟨g, cap, cur, h1, _⟩
     · exact ⟨_, _, by rw [h1, h2]⟩
     · exact ⟨_, _, h1⟩
    obtain ⟨bd, hbd⟩ : ∃ x, sk.db = x := ⟨_, rfl⟩
    rw [hbd] at x1
    have HB := h1_ hbd
    clear hbd
    by_cases hk : k < n
    · have hne : ¬ k = n := by omega
      have hneb : ((k : Int) != (n : Int)) = true := by simp; omega
      by_cases hr : sk.rest = []
      · have hz : sk.rest.length = 0 := by rw [hr]; rfl
        cases bd
        · skip
          clear hr
          go_wp2_with (go_at_call 48; refine (el_ q sk.rest sk.wb _ HR.out.2.2.2.1.read).mono ?_; rintro e w2 ⟨rfl, rfl⟩)
          go_ret
          obtain ⟨hvl, hloop, hown, hd, ho⟩ := HR.out
          have hend := bu_ EN.out (bk_ hkn hgo hloop)
          rw [hend]
          have oS : Only (· = qd) wr (wr.setCell ⟨qd, 1, none⟩ (.bool true)) := (Only.refl _ _).setCell _ _ (.inl rfl)
          refine ⟨_, xs, rfl, ho.then (oS.mono (T := DS qd q) (fun _ _ h => .inr h)) (fun _ _ h => h), ⟨(aj_ hd.head 1 (.bool true)).trans (congrArg (fun x => some (Obj.cells #[Value.pointer (some ⟨q, 0, none⟩), Value.bool x] 95 (0, 0))) (by rw [HB.out, hvl, decide_eq_true hne]; rfl)), oS.kept hd.read (Ne.symm hd.ne), hd.len⟩, ?_⟩
          rw [hvl]
          exact ⟨ar_ hown oS (fun b hb => by omega), HT.out.keep (fun g cur fr hg hc => oS.kept hc (by omega))⟩
        · skip
          clear hr
          go_wp2_with (go_at_call 48; refine (el_ q sk.rest sk.wb _ HR.out.2.2.2.1.read).mono ?_; rintro e w2 ⟨rfl, rfl⟩)
          go_ret
          obtain ⟨hvl, hloop, hown, hd, ho⟩ := HR.out
          have hend := bu_ EN.out (bk_ hkn hgo hloop)
          rw [hend]
          have oS : Only (· = qd) wr (wr.setCell ⟨qd, 1, none⟩ (.bool true)) := (Only.refl _ _).setCell _ _ (.inl rfl)
          refine ⟨_, xs, rfl, ho.then (oS.mono (T := DS qd q) (fun _ _ h => .inr h)) (fun _ _ h => h), ⟨(aj_ hd.head 1 (.bool true)).trans (congrArg (fun x => some (Obj.cells #[Value.pointer (some ⟨q, 0, none⟩), Value.bool x] 95 (0, 0))) (by rw [HB.out]; rfl)), oS.kept hd.read (Ne.symm hd.ne), hd.len⟩, ?_⟩
          rw [hvl]
          exact ⟨ar_ hown oS (fun b hb => by omega), HT.out.keep (fun g cur fr hg hc => oS.kept hc (by omega))⟩
      · have hpos : 0 < sk.rest.length := List.length_pos_iff.2 hr
        obtain rfl : bd = true := by
         cases bd
         · exact absurd ⟨hk, hr, HB.out⟩ hgo
         · rfl
        skip
        go_wp2_with (go_at_call 48; refine (el_ q sk.rest sk.wb _ HR.out.2.2.2.1.read).mono ?_; rintro e w2 ⟨rfl, rfl⟩)
        go_ret
        obtain ⟨hvl, hloop, hown, hd, ho⟩ := HR.out
        have hend := bu_ EN.out (bk_ hkn hgo hloop)
        rw [hend]
        have oS : Only (· = qd) wr (wr.setCell ⟨qd, 1, none⟩ (.bool true)) := (Only.refl _ _).setCell _ _ (.inl rfl)
        refine ⟨_, xs, rfl, ho.then (oS.mono (T := DS qd q) (fun _ _ h => .inr h)) (fun _ _ h => h), ⟨(aj_ hd.head 1 (.bool true)).trans (congrArg (fun x => some (Obj.cells #[Value.pointer (some ⟨q, 0, none⟩), Value.bool x] 95 (0, 0))) (by rw [HB.out]; rfl)), oS.kept hd.read (Ne.symm hd.ne), hd.len⟩, ?_⟩
        rw [hvl]
        exact ⟨ar_ hown oS (fun b hb => by omega), HT.out.keep (fun g cur fr hg hc => oS.kept hc (by omega))⟩
    · obtain rfl : k = n := by omega
      cases bd
      · skip
        skip
        go_wp2_with (go_at_call 48; refine (el_ q sk.rest sk.wb _ HR.out.2.2.2.1.read).mono ?_; rintro e w2 ⟨rfl, rfl⟩)
        go_ret
        obtain ⟨hvl, hloop, hown, hd, ho⟩ := HR.out
        have hend := bu_ EN.out (bk_ hkn hgo hloop)
        rw [hend]
        have oS : Only (· = qd) wr (wr.setCell ⟨qd, 1, none⟩ (.bool false)) := (Only.refl _ _).setCell _ _ (.inl rfl)
        refine ⟨_, xs, rfl, ho.then (oS.mono (T := DS qd q) (fun _ _ h => .inr h)) (fun _ _ h => h), ⟨(aj_ hd.head 1 (.bool false)).trans (congrArg (fun x => some (Obj.cells #[Value.pointer (some ⟨q, 0, none⟩), Value.bool x] 95 (0, 0))) (by rw [HB.out, hvl]; simp)), oS.kept hd.read (Ne.symm hd.ne), hd.len⟩, ?_⟩
        rw [hvl]
        exact ⟨ar_ hown oS (fun b hb => by omega), HT.out.keep (fun g cur fr hg hc => oS.kept hc (by omega))⟩
      · skip
        skip
        go_wp2_with (go_at_call 48; refine (el_ q sk.rest sk.wb _ HR.out.2.2.2.1.read).mono ?_; rintro e w2 ⟨rfl, rfl⟩)
        go_ret
        obtain ⟨hvl, hloop, hown, hd, ho⟩ := HR.out
        have hend := bu_ EN.out (bk_ hkn hgo hloop)
        rw [hend]
        have oS : Only (· = qd) wr (wr.setCell ⟨qd, 1, none⟩ (.bool true)) := (Only.refl _ _).setCell _ _ (.inl rfl)
        refine ⟨_, xs, rfl, ho.then (oS.mono (T := DS qd q) (fun _ _ h => .inr h)) (fun _ _ h => h), ⟨(aj_ hd.head 1 (.bool true)).trans (congrArg (fun x => some (Obj.cells #[Value.pointer (some ⟨q, 0, none⟩), Value.bool x] 95 (0, 0))) (by rw [HB.out]; rfl)), oS.kept hd.read (Ne.symm hd.ne), hd.len⟩, ?_⟩
        rw [hvl]
        exact ⟨ar_ hown oS (fun b hb => by omega), HT.out.keep (fun g cur fr hg hc => oS.kept hc (by omega))⟩
end
section
open Go.RowKit Wire
attribute [local go_sem] ak_ af_
attribute [local irreducible] repS cpuS modS strS chkS
theorem info_mod : (Tryz.prog.info? 84).map (fun i => (i.zero, i.size, i.bytes)) = some (some (.agg #[.string ⟨#[]⟩, .string ⟨#[]⟩, .int .i64 0, .int .i64 0, .bool false]), 5, 56) := by kernel_rfl
theorem cl_mod (x : ModD) (hx : True) : (fb_ x).length = 5 ∧ ∀ u ∈ fb_ x, u.oneCell' = true := by
 unfold fb_
 exact ⟨rfl, by simp [Value.oneCell', strB]⟩
theorem one_mod (qd q : Nat) (s : RS) (w : World) (h : DR w qd q s) :
 Calls Tryz.prog 22 #[.pointer (some ⟨qd, 0, none⟩)] w fun e w' => e = .returned (.agg (fb_ (modS s).1).toArray) ∧ Only (DS qd q) w w' ∧ DR w' qd q (modS s).2 :=
 (dmod qd q s w h).mono fun e w' ⟨he, ho, hd⟩ => ⟨he, ho.mono (fun _ _ h => h), hd⟩
theorem vj_ (qd q : Nat) (s : RS) (hsm : s.rest.length ≤ 68719476736) (w : World) (h : DR w qd q s) :
 Calls Tryz.prog 21 #[.pointer (some ⟨qd, 0, none⟩), .func (.func 22) #[.pointer (some ⟨qd, 0, none⟩)] #[]] w fun e w' => ∃ v, e = .returned v ∧ Only (DS qd q) w w' ∧ DR w' qd q (du_ modS s).2 ∧ w'.ownsRow w.heap.size 84 5 v (du_ modS s).1.length ((du_ modS s).1.flatMap fb_) := by
 have hlq := h.lq
 have hlw := h.lqd
 have x0 := h.c0
 obtain ⟨i0, hi, hz0, hz1, hz2⟩ := info_parts info_mod
 have HI := h4_ hi hz0 hz1 hz2
 clear hi hz0 hz1 hz2
 obtain ⟨n, s1, en⟩ : ∃ n t, numS s = (n, t) := ⟨_, _, rfl⟩
 have hnl : s1.rest.length ≤ s.rest.length := by have := gt_ s; rw [en] at this; exact this
 have EN := h1_ en
 have HH := h1_ h
 clear h en
 go_enter Tryz.func21, Tryz.ntmps21
 go_wp2_with fail
 go_at_call 47
 refine (dnum qd q s _ HH.out).mono ?_
 rintro e w1 ⟨rfl, ho1, hd1⟩
 rw [EN.out] at hd1 ⊢
 have H1 := h2_ ho1 hd1
 clear ho1 hd1 x0
 dsimp only
 go_wp2_with fail
 go_loopw [6, 7] (fun v i wr => ∃ (k : Nat) (vs : List ModD) (sk : RS), i = .int .i64 k ∧ vs.length = k ∧ k ≤ n ∧ b3_ modS n s1 = (vs ++ (b3_ modS (n - k) sk).1, (b3_ modS (n - k) sk).2) ∧ wr.ownsRow w.heap.size 84 5 v k (vs.flatMap fb_) ∧ DR wr qd q sk ∧ Only (DS qd q) w wr ∧ k + sk.rest.length ≤ s1.rest.length) (fun _ i _ => n - (RowKit.intOf i).toNat)
 case atStart => exact ⟨0, [], s1, rfl, rfl, Nat.zero_le _, rfl, World.ownsRow_nil _ _ _ _, H1.out.2, H1.out.1.mono (fun _ _ h => .inl h), by omega⟩
 case round =>
  obtain ⟨k, vs, sk, rfl, hvl, hkn, hloop, hown, hd, ho, hln⟩ := hrel
  have x0 := hd.c0
  have x1 := hd.c1
  have xf := hd.f1
  have hsz := ho.size
  have HR := h5_ hvl hloop hown hd ho
  clear hvl hloop hown hd ho
  by_cases hgo : k < n ∧ sk.rest ≠ [] ∧ sk.db = false
  · obtain ⟨hlt, hne, hdb⟩ := hgo
    have hpos : 0 < sk.rest.length := List.length_pos_iff.2 hne
    rw [hdb] at x1
    have HE := h2_ hne hdb
    clear hne hdb
    go_wp2_with (go_at_call 48; refine (el_ q sk.rest sk.wb _ HR.out.2.2.2.1.read).mono ?_; rintro e w2 ⟨rfl, rfl⟩)
    go_at_call 22
    refine (one_mod qd q sk _ HR.out.2.2.2.1).mono ?_
    rintro e w2 ⟨rfl, ho2, hd2⟩
    obtain ⟨L, hL⟩ : ∃ L, L = fb_ (modS sk).1 := ⟨_, rfl⟩
    rw [← hL]
    obtain ⟨hll, hl1⟩ := cl_mod (modS sk).1 trivial
    rw [← hL] at hll hl1
    have hfold := hp_ L [.string ⟨#[]⟩, .string ⟨#[]⟩, .int .i64 0, .int .i64 0, .bool false] (by rw [hll]; rfl)
    have hlen : k + 1 ≤ 68719476736 := by omega
    have HN := h5_ ho2 hd2 hL hll hl1
    have hown2 := ar_ HR.out.2.2.1 ho2 (fun b hb => by rcases hb with rfl | rfl <;> omega)
    have HO := h1_ hown2
    have lw2 := ho2.size
    clear ho2 hd2 hL hl1 hown2
    dsimp only
    go_wp2_with (at_builtin; refine wpList_append_lies _ rfl _ _ _ rfl w.heap.size 84 i0 (.agg #[.string ⟨#[]⟩, .string ⟨#[]⟩, .int .i64 0, .int .i64 0, .bool false]) 5 56 Tryz.underlying22 HI.out.1 HI.out.2.1 HI.out.2.2.1 HI.out.2.2.2 rfl (by omega) _ _ _ rfl (HO.out.alloc _) ⟨w2.heap.size, 0, none⟩ 1 1 L rfl (by rw [HN.out.2.2.2.1]) (World.news_of_block (cs := L.toArray) (t := 84) (fr := (0, 0)) (heap_alloc_new w2 _)) HN.out.2.2.2.2 (by omega) (by unfold maxLen; omega) (by omega) (by simp; omega) (w2.heap.size + 1) (by simp) ?_)
    intro g1 cap1 w3 hown1 hgrow hat hlt1
    have HG := h4_ hown1 hgrow hat hlt1
    clear hown1 hgrow hat hlt1 hfold hll
    go_wp2
    go_roundw
    case rel =>
     obtain ⟨hown1, hgrow, hat, hlt1⟩ := HG.out
     obtain ⟨ho2, hd2, hL, hll, hl1⟩ := HN.out
     obtain ⟨hvl, hloop, hown, hd, ho⟩ := HR.out
     have bB : Below w.heap.size w2 w3 := ((Below.refl w.heap.size w2).alloc (by omega) _).grown hgrow (by simp; omega) (fun b hb => (HO.out.lt b hb).1)
     have he := qt_ sk
     refine ⟨k + 1, vs ++ [(modS sk).1], (modS sk).2, rfl, by rw [List.length_append, hvl]; rfl, by omega, j3_ hlt HE.out.1 HE.out.2 hloop, ?_, ⟨(bB.block _ (by omega)).trans hd2.head, (bB.block _ (by omega)).trans hd2.read, hd2.len⟩, (ho.trans ho2).then (T := fun b => w.heap.size ≤ b) (Only.of_below_le bB (fun _ _ h => h)) (fun b hb h => by omega), ?_⟩
     · rw [List.flatMap_append]
       have e1 : [(modS sk).1].flatMap fb_ = L := by rw [hL]; simp
       rw [e1]
       exact hown1
     · have := he.2 HE.out.1
       omega
    case measure => simp [RowKit.intOf]; omega
  · obtain ⟨a, c, rfl⟩ : ∃ a c, u6 = .slice a k c := by
     rcases HR.out.2.2.1.2 with ⟨h1, h2⟩ | ⟨g, cap, cur, h1, _⟩
     · exact ⟨_, _, by rw [h1, h2]⟩
     · exact ⟨_, _, h1⟩
    obtain ⟨bd, hbd⟩ : ∃ x, sk.db = x := ⟨_, rfl⟩
    rw [hbd] at x1
    have HB := h1_ hbd
    clear hbd
    by_cases hk : k < n
    · have hne : ¬ k = n := by omega
      have hneb : ((k : Int) != (n : Int)) = true := by simp; omega
      by_cases hr : sk.rest = []
      · have hz : sk.rest.length = 0 := by rw [hr]; rfl
        cases bd
        · skip
          clear hr
          go_wp2_with (go_at_call 48; refine (el_ q sk.rest sk.wb _ HR.out.2.2.2.1.read).mono ?_; rintro e w2 ⟨rfl, rfl⟩)
          go_ret
          obtain ⟨hvl, hloop, hown, hd, ho⟩ := HR.out
          have hend := bu_ EN.out (bk_ hkn hgo hloop)
          rw [hend]
          have oS : Only (· = qd) wr (wr.setCell ⟨qd, 1, none⟩ (.bool true)) := (Only.refl _ _).setCell _ _ (.inl rfl)
          refine ⟨_, rfl, ho.then (oS.mono (T := DS qd q) (fun _ _ h => .inr h)) (fun _ _ h => h), ⟨(aj_ hd.head 1 (.bool true)).trans (congrArg (fun x => some (Obj.cells #[Value.pointer (some ⟨q, 0, none⟩), Value.bool x] 95 (0, 0))) (by rw [HB.out, hvl, decide_eq_true hne]; rfl)), oS.kept hd.read (Ne.symm hd.ne), hd.len⟩, ?_⟩
          rw [hvl]
          exact ar_ hown oS (fun b hb => by omega)
        · skip
          clear hr
          go_wp2_with (go_at_call 48; refine (el_ q sk.rest sk.wb _ HR.out.2.2.2.1.read).mono ?_; rintro e w2 ⟨rfl, rfl⟩)
          go_ret
          obtain ⟨hvl, hloop, hown, hd, ho⟩ := HR.out
          have hend := bu_ EN.out (bk_ hkn hgo hloop)
          rw [hend]
          have oS : Only (· = qd) wr (wr.setCell ⟨qd, 1, none⟩ (.bool true)) := (Only.refl _ _).setCell _ _ (.inl rfl)
          refine ⟨_, rfl, ho.then (oS.mono (T := DS qd q) (fun _ _ h => .inr h)) (fun _ _ h => h), ⟨(aj_ hd.head 1 (.bool true)).trans (congrArg (fun x => some (Obj.cells #[Value.pointer (some ⟨q, 0, none⟩), Value.bool x] 95 (0, 0))) (by rw [HB.out]; rfl)), oS.kept hd.read (Ne.symm hd.ne), hd.len⟩, ?_⟩
          rw [hvl]
          exact ar_ hown oS (fun b hb => by omega)
      · have hpos : 0 < sk.rest.length := List.length_pos_iff.2 hr
        obtain rfl : bd = true := by
         cases bd
         · exact absurd ⟨hk, hr, HB.out⟩ hgo
         · rfl
        skip
        go_wp2_with (go_at_call 48; refine (el_ q sk.rest sk.wb _ HR.out.2.2.2.1.read).mono ?_; rintro e w2 ⟨rfl, rfl⟩)
        go_ret
        obtain ⟨hvl, hloop, hown, hd, ho⟩ := HR.out
        have hend := bu_ EN.out (bk_ hkn hgo hloop)
        rw [hend]
        have oS : Only (· = qd) wr (wr.setCell ⟨qd, 1, none⟩ (.bool true)) := (Only.refl _ _).setCell _ _ (.inl rfl)
        refine ⟨_, rfl, ho.then (oS.mono (T := DS qd q) (fun _ _ h => .inr h)) (fun _ _ h => h), ⟨(aj_ hd.head 1 (.bool true)).trans (congrArg (fun x => some (Obj.cells #[Value.pointer (some ⟨q, 0, none⟩), Value.bool x] 95 (0, 0))) (by rw [HB.out]; rfl)), oS.kept hd.read (Ne.symm hd.ne), hd.len⟩, ?_⟩
        rw [hvl]
        exact ar_ hown oS (fun b hb => by omega)
    · obtain rfl : k = n := by omega
      cases bd
      · skip
        skip
        go_wp2_with (go_at_call 48; refine (el_ q sk.rest sk.wb _ HR.out.2.2.2.1.read).mono ?_; rintro e w2 ⟨rfl, rfl⟩)
        go_ret
        obtain ⟨hvl, hloop, hown, hd, ho⟩ := HR.out
        have hend := bu_ EN.out (bk_ hkn hgo hloop)
        rw [hend]
        have oS : Only (· = qd) wr (wr.setCell ⟨qd, 1, none⟩ (.bool false)) := (Only.refl _ _).setCell _ _ (.inl rfl)
        refine ⟨_, rfl, ho.then (oS.mono (T := DS qd q) (fun _ _ h => .inr h)) (fun _ _ h => h), ⟨(aj_ hd.head 1 (.bool false)).trans (congrArg (fun x => some (Obj.cells #[Value.pointer (some ⟨q, 0, none⟩), Value.bool x] 95 (0, 0))) (by rw [HB.out, hvl]; simp)), oS.kept hd.read (Ne.symm hd.ne), hd.len⟩, ?_⟩
        rw [hvl]
        exact ar_ hown oS (fun b hb => by omega)
      · skip
        skip
        go_wp2_with (go_at_call 48; refine (el_ q sk.rest sk.wb _ HR.out.2.2.2.1.read).mono ?_; rintro e w2 ⟨rfl, rfl⟩)
        go_ret
        obtain ⟨hvl, hloop, hown, hd, ho⟩ := HR.out
        have hend := bu_ EN.out (bk_ hkn hgo hloop)
        rw [hend]
        have oS : Only (· = qd) wr (wr.setCell ⟨qd, 1, none⟩ (.bool true)) := (Only.refl _ _).setCell _ _ (.inl rfl)
        refine ⟨_, rfl, ho.then (oS.mono (T := DS qd q) (fun _ _ h => .inr h)) (fun _ _ h => h), ⟨(aj_ hd.head 1 (.bool true)).trans (congrArg (fun x => some (Obj.cells #[Value.pointer (some ⟨q, 0, none⟩), Value.bool x] 95 (0, 0))) (by rw [HB.out]; rfl)), oS.kept hd.read (Ne.symm hd.ne), hd.len⟩, ?_⟩
        rw [hvl]
        exact ar_ hown oS (fun b hb => by omega)
end
section
open Go.RowKit Wire
attribute [local go_sem] ak_ af_
attribute [local irreducible] repS cpuS modS strS chkS
theorem xq_ : (Tryz.prog.info? 88).map (fun i => (i.zero, i.size, i.bytes)) = some (some (.agg #[.int .i64 0, .string ⟨#[]⟩, .string ⟨#[]⟩, .string ⟨#[]⟩, .int .i64 0, .int .i64 0, .int .i64 0]), 7, 80) := by kernel_rfl
theorem cl_str (x : StrD) (hx : True) : (lz_ x).length = 7 ∧ ∀ u ∈ lz_ x, u.oneCell' = true := by
 unfold lz_
 exact ⟨rfl, by simp [Value.oneCell', strB]⟩
theorem one_str (qd q : Nat) (s : RS) (w : World) (h : DR w qd q s) :
 Calls Tryz.prog 24 #[.pointer (some ⟨qd, 0, none⟩)] w fun e w' => e = .returned (.agg (lz_ (strS s).1).toArray) ∧ Only (DS qd q) w w' ∧ DR w' qd q (strS s).2 :=
 (xb_ qd q s w h).mono fun e w' ⟨he, ho, hd⟩ => ⟨he, ho.mono (fun _ _ h => .inl h), hd⟩
theorem vk_ (qd q : Nat) (s : RS) (hsm : s.rest.length ≤ 68719476736) (w : World) (h : DR w qd q s) :
 Calls Tryz.prog 23 #[.pointer (some ⟨qd, 0, none⟩), .func (.func 24) #[.pointer (some ⟨qd, 0, none⟩)] #[]] w fun e w' => ∃ v, e = .returned v ∧ Only (DS qd q) w w' ∧ DR w' qd q (du_ strS s).2 ∧ w'.ownsRow w.heap.size 88 7 v (du_ strS s).1.length ((du_ strS s).1.flatMap lz_) := by
 have hlq := h.lq
 have hlw := h.lqd
 have x0 := h.c0
 obtain ⟨i0, hi, hz0, hz1, hz2⟩ := info_parts xq_
 have HI := h4_ hi hz0 hz1 hz2
 clear hi hz0 hz1 hz2
 obtain ⟨n, s1, en⟩ : ∃ n t, numS s = (n, t) := ⟨_, _, rfl⟩
 have hnl : s1.rest.length ≤ s.rest.length := by have := gt_ s; rw [en] at this; exact this
 have EN := h1_ en
 have HH := h1_ h
 clear h en
 go_enter Tryz.func23, Tryz.ntmps23
 go_wp2_with fail
 go_at_call 47
 refine (dnum qd q s _ HH.out).mono ?_
 rintro e w1 ⟨rfl, ho1, hd1⟩
 rw [EN.out] at hd1 ⊢
 have H1 := h2_ ho1 hd1
 clear ho1 hd1 x0
 dsimp only
 go_wp2_with fail
 go_loopw [6, 7] (fun v i wr => ∃ (k : Nat) (vs : List StrD) (sk : RS), i = .int .i64 k ∧ vs.length = k ∧ k ≤ n ∧ b3_ strS n s1 = (vs ++ (b3_ strS (n - k) sk).1, (b3_ strS (n - k) sk).2) ∧ wr.ownsRow w.heap.size 88 7 v k (vs.flatMap lz_) ∧ DR wr qd q sk ∧ Only (DS qd q) w wr ∧ k + sk.rest.length ≤ s1.rest.length) (fun _ i _ => n - (RowKit.intOf i).toNat)
 case atStart => exact ⟨0, [], s1, rfl, rfl, Nat.zero_le _, rfl, World.ownsRow_nil _ _ _ _, H1.out.2, H1.out.1.mono (fun _ _ h => .inl h), by omega⟩
 case round =>
  obtain ⟨k, vs, sk, rfl, hvl, hkn, hloop, hown, hd, ho, hln⟩ := hrel
  have x0 := hd.c0
  have x1 := hd.c1
  have xf := hd.f1
  have hsz := ho.size
  have HR := h5_ hvl hloop hown hd ho
  clear hvl hloop hown hd ho
  by_cases hgo : k < n ∧ sk.rest ≠ [] ∧ sk.db = false
  · obtain ⟨hlt, hne, hdb⟩ := hgo
    have hpos : 0 < sk.rest.length := List.length_pos_iff.2 hne
    rw [hdb] at x1
    have HE := h2_ hne hdb
    clear hne hdb
    go_wp2_with (go_at_call 48; refine (el_ q sk.rest sk.wb _ HR.out.2.2.2.1.read).mono ?_; rintro e w2 ⟨rfl, rfl⟩)
    go_at_call 24
    refine (one_str qd q sk _ HR.out.2.2.2.1).mono ?_
    rintro e w2 ⟨rfl, ho2, hd2⟩
    obtain ⟨L, hL⟩ : ∃ L, L = lz_ (strS sk).1 := ⟨_, rfl⟩
    rw [← hL]
    obtain ⟨hll, hl1⟩ := cl_str (strS sk).1 trivial
    rw [← hL] at hll hl1
    have hfold := hp_ L [.int .i64 0, .string ⟨#[]⟩, .string ⟨#[]⟩, .string ⟨#[]⟩, .int .i64 0, .int .i64 0, .int .i64 0] (by rw [hll]; rfl)
    have hlen : k + 1 ≤ 68719476736 := by omega
    have HN := h5_ ho2 hd2 hL hll hl1
    have hown2 := ar_ HR.out.2.2.1 ho2 (fun b hb => by rcases hb with rfl | rfl <;> omega)
    have HO := h1_ hown2
    have lw2 := ho2.size
    clear ho2 hd2 hL hl1 hown2
    dsimp only
    go_wp2_with (at_builtin; refine wpList_append_lies _ rfl _ _ _ rfl w.heap.size 88 i0 (.agg #[.int .i64 0, .string ⟨#[]⟩, .string ⟨#[]⟩, .string ⟨#[]⟩, .int .i64 0, .int .i64 0, .int .i64 0]) 7 80 Tryz.underlying23 HI.out.1 HI.out.2.1 HI.out.2.2.1 HI.out.2.2.2 rfl (by omega) _ _ _ rfl (HO.out.alloc _) ⟨w2.heap.size, 0, none⟩ 1 1 L rfl (by rw [HN.out.2.2.2.1]) (World.news_of_block (cs := L.toArray) (t := 88) (fr := (0, 0)) (heap_alloc_new w2 _)) HN.out.2.2.2.2 (by omega) (by unfold maxLen; omega) (by omega) (by simp; omega) (w2.heap.size + 1) (by simp) ?_)
    intro g1 cap1 w3 hown1 hgrow hat hlt1
    have HG := h4_ hown1 hgrow hat hlt1
    clear hown1 hgrow hat hlt1 hfold hll
    go_wp2
    go_roundw
    case rel =>
     obtain ⟨hown1, hgrow, hat, hlt1⟩ := HG.out
     obtain ⟨ho2, hd2, hL, hll, hl1⟩ := HN.out
     obtain ⟨hvl, hloop, hown, hd, ho⟩ := HR.out
     have bB : Below w.heap.size w2 w3 := ((Below.refl w.heap.size w2).alloc (by omega) _).grown hgrow (by simp; omega) (fun b hb => (HO.out.lt b hb).1)
     have he := qu_ sk
     refine ⟨k + 1, vs ++ [(strS sk).1], (strS sk).2, rfl, by rw [List.length_append, hvl]; rfl, by omega, j3_ hlt HE.out.1 HE.out.2 hloop, ?_, ⟨(bB.block _ (by omega)).trans hd2.head, (bB.block _ (by omega)).trans hd2.read, hd2.len⟩, (ho.trans ho2).then (T := fun b => w.heap.size ≤ b) (Only.of_below_le bB (fun _ _ h => h)) (fun b hb h => by omega), ?_⟩
     · rw [List.flatMap_append]
       have e1 : [(strS sk).1].flatMap lz_ = L := by rw [hL]; simp
       rw [e1]
       exact hown1
     · have := he.2 HE.out.1
       omega
    case measure => simp [RowKit.intOf]; omega
  · obtain ⟨a, c, rfl⟩ : ∃ a c, u6 = .slice a k c := by
     rcases HR.out.2.2.1.2 with ⟨h1, h2⟩ | ⟨g, cap, cur, h1, _⟩
     · exact ⟨_, _, by rw [h1, h2]⟩
     · exact ⟨_, _, h1⟩
    obtain ⟨bd, hbd⟩ : ∃ x, sk.db = x := ⟨_, rfl⟩
    rw [hbd] at x1
    have HB := h1_ hbd
    clear hbd
    by_cases hk : k < n
    · have hne : ¬ k = n := by omega
      have hneb : ((k : Int) != (n : Int)) = true := by simp; omega
      by_cases hr : sk.rest = []
      · have hz : sk.rest.length = 0 := by rw [hr]; rfl
        cases bd
        · skip
          clear hr
          go_wp2_with (go_at_call 48; refine (el_ q sk.rest sk.wb _ HR.out.2.2.2.1.read).mono ?_; rintro e w2 ⟨rfl, rfl⟩)
          go_ret
          obtain ⟨hvl, hloop, hown, hd, ho⟩ := HR.out
          have hend := bu_ EN.out (bk_ hkn hgo hloop)
          rw [hend]
          have oS : Only (· = qd) wr (wr.setCell ⟨qd, 1, none⟩ (.bool true)) := (Only.refl _ _).setCell _ _ (.inl rfl)
          refine ⟨_, rfl, ho.then (oS.mono (T := DS qd q) (fun _ _ h => .inr h)) (fun _ _ h => h), ⟨(aj_ hd.head 1 (.bool true)).trans (congrArg (fun x => some (Obj.cells #[Value.pointer (some ⟨q, 0, none⟩), Value.bool x] 95 (0, 0))) (by rw [HB.out, hvl, decide_eq_true hne]; rfl)), oS.kept hd.read (Ne.symm hd.ne), hd.len⟩, ?_⟩
          rw [hvl]
          exact ar_ hown oS (fun b hb => by omega)
        · skip
          clear hr
          go_wp2_with (go_at_call 48; refine (el_ q sk.rest sk.wb _ HR.out.2.2.2.1.read).mono ?_; rintro e w2 ⟨rfl, rfl⟩)
          go_ret
          obtain ⟨hvl, hloop, hown, hd, ho⟩ := HR.out
          have hend := bu_ EN.out (bk_ hkn hgo hloop)
          rw [hend]
          have oS : Only (· = qd) wr (wr.setCell ⟨qd, 1, none⟩ (.bool true)) := (Only.refl _ _).setCell _ _ (.inl rfl)
          refine ⟨_, rfl, ho.then (oS.mono (T := DS qd q) (fun _ _ h => .inr h)) (fun _ _ h => h), ⟨(aj_ hd.head 1 (.bool true)).trans (congrArg (fun x => some (Obj.cells #[Value.pointer (some ⟨q, 0, none⟩), Value.bool x] 95 (0, 0))) (by rw [HB.out]; rfl)), oS.kept hd.read (Ne.symm hd.ne), hd.len⟩, ?_⟩
          rw [hvl]
          exact ar_ hown oS (fun b hb => by omega)
      · have hpos : 0 < sk.rest.length := List.length_pos_iff.2 hr
        obtain rfl : bd = true := by
         cases bd
         · exact absurd ⟨hk, hr, HB.out⟩ hgo
         · rfl
        skip
        go_wp2_with (go_at_call 48; refine (el_ q sk.rest sk.wb _ HR.out.2.2.2.1.read).mono ?_; rintro e w2 ⟨rfl, rfl⟩)
        go_ret
        obtain ⟨hvl, hloop, hown, hd, ho⟩ := HR.out
        have hend := bu_ EN.out (bk_ hkn hgo hloop)
        rw [hend]
        have oS : Only (· = qd) wr (wr.setCell ⟨qd, 1, none⟩ (.bool true)) := (Only.refl _ _).setCell _ _ (.inl rfl)
        refine ⟨_, rfl, ho.then (oS.mono (T := DS qd q) (fun _ _ h => .inr h)) (fun _ _ h => h), ⟨(aj_ hd.head 1 (.bool true)).trans (congrArg (fun x => some (Obj.cells #[Value.pointer (some ⟨q, 0, none⟩), Value.bool x] 95 (0, 0))) (by rw [HB.out]; rfl)), oS.kept hd.read (Ne.symm hd.ne), hd.len⟩, ?_⟩
        rw [hvl]
        exact ar_ hown oS (fun b hb => by omega)
    · obtain rfl : k = n := by omega
      cases bd
      · skip
        skip
        go_wp2_with (go_at_call 48; refine (el_ q sk.rest sk.wb _ HR.out.2.2.2.1.read).mono ?_; rintro e w2 ⟨rfl, rfl⟩)
        go_ret
        obtain ⟨hvl, hloop, hown, hd, ho⟩ := HR.out
        have hend := bu_ EN.out (bk_ hkn hgo hloop)
        rw [hend]
        have oS : Only (· = qd) wr (wr.setCell ⟨qd, 1, none⟩ (.bool false)) := (Only.refl _ _).setCell _ _ (.inl rfl)
        refine ⟨_, rfl, ho.then (oS.mono (T := DS qd q) (fun _ _ h => .inr h)) (fun _ _ h => h), ⟨(aj_ hd.head 1 (.bool false)).trans (congrArg (fun x => some (Obj.cells #[Value.pointer (some ⟨q, 0, none⟩), Value.bool x] 95 (0, 0))) (by rw [HB.out, hvl]; simp)), oS.kept hd.read (Ne.symm hd.ne), hd.len⟩, ?_⟩
        rw [hvl]
        exact ar_ hown oS (fun b hb => by omega)
      · skip
        skip
        go_wp2_with (go_at_call 48; refine (el_ q sk.rest sk.wb _ HR.out.2.2.2.1.read).mono ?_; rintro e w2 ⟨rfl, rfl⟩)
        go_ret
        obtain ⟨hvl, hloop, hown, hd, ho⟩ := HR.out
        have hend := bu_ EN.out (bk_ hkn hgo hloop)
        rw [hend]
        have oS : Only (· = qd) wr (wr.setCell ⟨qd, 1, none⟩ (.bool true)) := (Only.refl _ _).setCell _ _ (.inl rfl)
        refine ⟨_, rfl, ho.then (oS.mono (T := DS qd q) (fun _ _ h => .inr h)) (fun _ _ h => h), ⟨(aj_ hd.head 1 (.bool true)).trans (congrArg (fun x => some (Obj.cells #[Value.pointer (some ⟨q, 0, none⟩), Value.bool x] 95 (0, 0))) (by rw [HB.out]; rfl)), oS.kept hd.read (Ne.symm hd.ne), hd.len⟩, ?_⟩
        rw [hvl]
        exact ar_ hown oS (fun b hb => by omega)
end
section
open Go.RowKit Wire
attribute [local go_sem] ak_ af_
attribute [local irreducible] repS cpuS modS strS chkS
theorem xr_ : (Tryz.prog.info? 65).map (fun i => (i.zero, i.size, i.bytes)) = some (some (.agg #[.int .i64 0, .string ⟨#[]⟩]), 2, 24) := by kernel_rfl
theorem cl_chk (x : ChkD) (hx : True) : (fc_ x).length = 2 ∧ ∀ u ∈ fc_ x, u.oneCell' = true := by
 unfold fc_
 exact ⟨rfl, by simp [Value.oneCell', strB]⟩
theorem one_chk (qd q : Nat) (s : RS) (w : World) (h : DR w qd q s) :
 Calls Tryz.prog 28 #[.pointer (some ⟨qd, 0, none⟩)] w fun e w' => e = .returned (.agg (fc_ (chkS s).1).toArray) ∧ Only (DS qd q) w w' ∧ DR w' qd q (chkS s).2 :=
 (dchunk qd q s w h).mono fun e w' ⟨he, ho, hd⟩ => ⟨he, ho.mono (fun _ _ h => .inl h), hd⟩
theorem vl_ (qd q : Nat) (s : RS) (hsm : s.rest.length ≤ 68719476736) (w : World) (h : DR w qd q s) :
 Calls Tryz.prog 27 #[.pointer (some ⟨qd, 0, none⟩), .func (.func 28) #[.pointer (some ⟨qd, 0, none⟩)] #[]] w fun e w' => ∃ v, e = .returned v ∧ Only (DS qd q) w w' ∧ DR w' qd q (du_ chkS s).2 ∧ w'.ownsRow w.heap.size 65 2 v (du_ chkS s).1.length ((du_ chkS s).1.flatMap fc_) := by
 have hlq := h.lq
 have hlw := h.lqd
 have x0 := h.c0
 obtain ⟨i0, hi, hz0, hz1, hz2⟩ := info_parts xr_
 have HI := h4_ hi hz0 hz1 hz2
 clear hi hz0 hz1 hz2
 obtain ⟨n, s1, en⟩ : ∃ n t, numS s = (n, t) := ⟨_, _, rfl⟩
 have hnl : s1.rest.length ≤ s.rest.length := by have := gt_ s; rw [en] at this; exact this
 have EN := h1_ en
 have HH := h1_ h
 clear h en
 go_enter Tryz.func27, Tryz.ntmps27
 go_wp2_with fail
 go_at_call 47
 refine (dnum qd q s _ HH.out).mono ?_
 rintro e w1 ⟨rfl, ho1, hd1⟩
 rw [EN.out] at hd1 ⊢
 have H1 := h2_ ho1 hd1
 clear ho1 hd1 x0
 dsimp only
 go_wp2_with fail
 go_loopw [6, 7] (fun v i wr => ∃ (k : Nat) (vs : List ChkD) (sk : RS), i = .int .i64 k ∧ vs.length = k ∧ k ≤ n ∧ b3_ chkS n s1 = (vs ++ (b3_ chkS (n - k) sk).1, (b3_ chkS (n - k) sk).2) ∧ wr.ownsRow w.heap.size 65 2 v k (vs.flatMap fc_) ∧ DR wr qd q sk ∧ Only (DS qd q) w wr ∧ k + sk.rest.length ≤ s1.rest.length) (fun _ i _ => n - (RowKit.intOf i).toNat)
 case atStart => exact ⟨0, [], s1, rfl, rfl, Nat.zero_le _, rfl, World.ownsRow_nil _ _ _ _, H1.out.2, H1.out.1.mono (fun _ _ h => .inl h), by omega⟩
 case round =>
  obtain ⟨k, vs, sk, rfl, hvl, hkn, hloop, hown, hd, ho, hln⟩ := hrel
  have x0 := hd.c0
  have x1 := hd.c1
  have xf := hd.f1
  have hsz := ho.size
  have HR := h5_ hvl hloop hown hd ho
  clear hvl hloop hown hd ho
  by_cases hgo : k < n ∧ sk.rest ≠ [] ∧ sk.db = false
  · obtain ⟨hlt, hne, hdb⟩ := hgo
    have hpos : 0 < sk.rest.length := List.length_pos_iff.2 hne
    rw [hdb] at x1
    have HE := h2_ hne hdb
    clear hne hdb
    go_wp2_with (go_at_call 48; refine (el_ q sk.rest sk.wb _ HR.out.2.2.2.1.read).mono ?_; rintro e w2 ⟨rfl, rfl⟩)
    go_at_call 28
    refine (one_chk qd q sk _ HR.out.2.2.2.1).mono ?_
    rintro e w2 ⟨rfl, ho2, hd2⟩
    obtain ⟨L, hL⟩ : ∃ L, L = fc_ (chkS sk).1 := ⟨_, rfl⟩
    rw [← hL]
    obtain ⟨hll, hl1⟩ := cl_chk (chkS sk).1 trivial
    rw [← hL] at hll hl1
    have hfold := hp_ L [.int .i64 0, .string ⟨#[]⟩] (by rw [hll]; rfl)
    have hlen : k + 1 ≤ 68719476736 := by omega
    have HN := h5_ ho2 hd2 hL hll hl1
    have hown2 := ar_ HR.out.2.2.1 ho2 (fun b hb => by rcases hb with rfl | rfl <;> omega)
    have HO := h1_ hown2
    have lw2 := ho2.size
    clear ho2 hd2 hL hl1 hown2
    dsimp only
    go_wp2_with (at_builtin; refine wpList_append_lies _ rfl _ _ _ rfl w.heap.size 65 i0 (.agg #[.int .i64 0, .string ⟨#[]⟩]) 2 24 Tryz.underlying25 HI.out.1 HI.out.2.1 HI.out.2.2.1 HI.out.2.2.2 rfl (by omega) _ _ _ rfl (HO.out.alloc _) ⟨w2.heap.size, 0, none⟩ 1 1 L rfl (by rw [HN.out.2.2.2.1]) (World.news_of_block (cs := L.toArray) (t := 65) (fr := (0, 0)) (heap_alloc_new w2 _)) HN.out.2.2.2.2 (by omega) (by unfold maxLen; omega) (by omega) (by simp; omega) (w2.heap.size + 1) (by simp) ?_)
    intro g1 cap1 w3 hown1 hgrow hat hlt1
    have HG := h4_ hown1 hgrow hat hlt1
    clear hown1 hgrow hat hlt1 hfold hll
    go_wp2
    go_roundw
    case rel =>
     obtain ⟨hown1, hgrow, hat, hlt1⟩ := HG.out
     obtain ⟨ho2, hd2, hL, hll, hl1⟩ := HN.out
     obtain ⟨hvl, hloop, hown, hd, ho⟩ := HR.out
     have bB : Below w.heap.size w2 w3 := ((Below.refl w.heap.size w2).alloc (by omega) _).grown hgrow (by simp; omega) (fun b hb => (HO.out.lt b hb).1)
     have he := xf_ sk
     refine ⟨k + 1, vs ++ [(chkS sk).1], (chkS sk).2, rfl, by rw [List.length_append, hvl]; rfl, by omega, j3_ hlt HE.out.1 HE.out.2 hloop, ?_, ⟨(bB.block _ (by omega)).trans hd2.head, (bB.block _ (by omega)).trans hd2.read, hd2.len⟩, (ho.trans ho2).then (T := fun b => w.heap.size ≤ b) (Only.of_below_le bB (fun _ _ h => h)) (fun b hb h => by omega), ?_⟩
     · rw [List.flatMap_append]
       have e1 : [(chkS sk).1].flatMap fc_ = L := by rw [hL]; simp
       rw [e1]
       exact hown1
     · have := he.2 HE.out.1
       omega
    case measure => simp [RowKit.intOf]; omega
  · obtain ⟨a, c, rfl⟩ : ∃ a c, u6 = .slice a k c := by
     rcases HR.out.2.2.1.2 with ⟨h1, h2⟩ | ⟨g, cap, cur, h1, _⟩
     · exact ⟨_, _, by rw [h1, h2]⟩
     · exact ⟨_, _, h1⟩
    obtain ⟨bd, hbd⟩ : ∃ x, sk.db = x := ⟨_, rfl⟩
    rw [hbd] at x1
    have HB := h1_ hbd
    clear hbd
    by_cases hk : k < n
    · have hne : ¬ k = n := by omega
      have hneb : ((k : Int) != (n : Int)) = true := by simp; omega
      by_cases hr : sk.rest = []
      · have hz : sk.rest.length = 0 := by rw [hr]; rfl
        cases bd
        · skip
          clear hr
          go_wp2_with (go_at_call 48; refine (el_ q sk.rest sk.wb _ HR.out.2.2.2.1.read).mono ?_; rintro e w2 ⟨rfl, rfl⟩)
          go_ret
          obtain ⟨hvl, hloop, hown, hd, ho⟩ := HR.out
          have hend := bu_ EN.out (bk_ hkn hgo hloop)
          rw [hend]
          have oS : Only (· = qd) wr (wr.setCell ⟨qd, 1, none⟩ (.bool true)) := (Only.refl _ _).setCell _ _ (.inl rfl)
          refine ⟨_, rfl, ho.then (oS.mono (T := DS qd q) (fun _ _ h => .inr h)) (fun _ _ h => h), ⟨(aj_ hd.head 1 (.bool true)).trans (congrArg (fun x => some (Obj.cells #[Value.pointer (some ⟨q, 0, none⟩), Value.bool x] 95 (0, 0))) (by rw [HB.out, hvl, decide_eq_true hne]; rfl)), oS.kept hd.read (Ne.symm hd.ne), hd.len⟩, ?_⟩
          rw [hvl]
          exact ar_ hown oS (fun b hb => by omega)
        · skip
          clear hr
          go_wp2_with (go_at_call 48; refine (el_ q sk.rest sk.wb _ HR.out.2.2.2.1.read).mono ?_; rintro e w2 ⟨rfl, rfl⟩)
          go_ret
          obtain ⟨hvl, hloop, hown, hd, ho⟩ := HR.out
          have hend := bu_ EN.out (bk_ hkn hgo hloop)
          rw [hend]
          have oS : Only (· = qd) wr (wr.setCell ⟨qd, 1, none⟩ (.bool true)) := (Only.refl _ _).setCell _ _ (.inl rfl)
          refine ⟨_, rfl, ho.then (oS.mono (T := DS qd q) (fun _ _ h => .inr h)) (fun _ _ h => h), ⟨(aj_ hd.head 1 (.bool true)).trans (congrArg (fun x => some (Obj.cells #[Value.pointer (some ⟨q, 0, none⟩), Value.bool x] 95 (0, 0))) (by rw [HB.out]; rfl)), oS.kept hd.read (Ne.symm hd.ne), hd.len⟩, ?_⟩
          rw [hvl]
          exact ar_ hown oS (fun b hb => by omega)
      · have hpos : 0 < sk.rest.length := List.length_pos_iff.2 hr
        obtain rfl : bd = true := by
         cases bd
         · exact absurd ⟨hk, hr, HB.out⟩ hgo
         · rfl
        skip
        go_wp2_with (go_at_call 48; refine (el_ q sk.rest sk.wb _ HR.out.2.2.2.1.read).mono ?_; rintro e w2 ⟨rfl, rfl⟩)
        go_ret
        obtain ⟨hvl, hloop, hown, hd, ho⟩ := HR.out
        have hend := bu_ EN.out (bk_ hkn hgo hloop)
        rw [hend]
        have oS : Only (· = qd) wr (wr.setCell ⟨qd, 1, none⟩ (.bool true)) := (Only.refl _ _).setCell _ _ (.inl rfl)
        refine ⟨_, rfl, ho.then (oS.mono (T := DS qd q) (fun _ _ h => .inr h)) (fun _ _ h => h), ⟨(aj_ hd.head 1 (.bool true)).trans (congrArg (fun x => some (Obj.cells #[Value.pointer (some ⟨q, 0, none⟩), Value.bool x] 95 (0, 0))) (by rw [HB.out]; rfl)), oS.kept hd.read (Ne.symm hd.ne), hd.len⟩, ?_⟩
        rw [hvl]
        exact ar_ hown oS (fun b hb => by omega)
    · obtain rfl : k = n := by omega
      cases bd
      · skip
        skip
        go_wp2_with (go_at_call 48; refine (el_ q sk.rest sk.wb _ HR.out.2.2.2.1.read).mono ?_; rintro e w2 ⟨rfl, rfl⟩)
        go_ret
        obtain ⟨hvl, hloop, hown, hd, ho⟩ := HR.out
        have hend := bu_ EN.out (bk_ hkn hgo hloop)
        rw [hend]
        have oS : Only (· = qd) wr (wr.setCell ⟨qd, 1, none⟩ (.bool false)) := (Only.refl _ _).setCell _ _ (.inl rfl)
        refine ⟨_, rfl, ho.then (oS.mono (T := DS qd q) (fun _ _ h => .inr h)) (fun _ _ h => h), ⟨(aj_ hd.head 1 (.bool false)).trans (congrArg (fun x => some (Obj.cells #[Value.pointer (some ⟨q, 0, none⟩), Value.bool x] 95 (0, 0))) (by rw [HB.out, hvl]; simp)), oS.kept hd.read (Ne.symm hd.ne), hd.len⟩, ?_⟩
        rw [hvl]
        exact ar_ hown oS (fun b hb => by omega)
      · skip
        skip
        go_wp2_with (go_at_call 48; refine (el_ q sk.rest sk.wb _ HR.out.2.2.2.1.read).mono ?_; rintro e w2 ⟨rfl, rfl⟩)
        go_ret
        obtain ⟨hvl, hloop, hown, hd, ho⟩ := HR.out
        have hend := bu_ EN.out (bk_ hkn hgo hloop)
        rw [hend]
        have oS : Only (· = qd) wr (wr.setCell ⟨qd, 1, none⟩ (.bool true)) := (Only.refl _ _).setCell _ _ (.inl rfl)
        refine ⟨_, rfl, ho.then (oS.mono (T := DS qd q) (fun _ _ h => .inr h)) (fun _ _ h => h), ⟨(aj_ hd.head 1 (.bool true)).trans (congrArg (fun x => some (Obj.cells #[Value.pointer (some ⟨q, 0, none⟩), Value.bool x] 95 (0, 0))) (by rw [HB.out]; rfl)), oS.kept hd.read (Ne.symm hd.ne), hd.len⟩, ?_⟩
        rw [hvl]
        exact ar_ hown oS (fun b hb => by omega)
end
end Go.Proofs.YtacaejpamidkcaaGreatDoor
