/- dump: levels of the example. dump: levels of the example without images. dump: Explain of the example. dump: Explain of the example, no image handed. dump: ints, cpuBytes. -/
import Derived.RangeFuncNested
import Derived.Test.YtacaejpamidkcaaGreatDoorR43
set_option linter.unusedVariables false
set_option linter.unusedSimpArgs false
set_option maxRecDepth 100000
set_option maxHeartbeats 4000000
namespace Go.Proofs.YtacaejpamidkcaaGreatDoor
namespace Two
open Go.RowKit
attribute [local go_sem] ak_ af_
attribute [local irreducible] aa_ modC cpuL thrG dtC
theorem g5_ (t : Tmp) (r : Nat → Int) (pc : Int) (o : Oper) (a : Act) (w : World) (ho : o.op = .buildSlice 71 1 #[(0, .tmp t)]) (ht : a.tmps[t]?.getD undef = .agg (cpuL r pc).toArray) :
 (execOp a.eval o).run Tryz.prog w = .ok (.value (.slice (some ⟨w.heap.size, 0, none⟩) 1 1)) (w.alloc (.cells (cpuL r pc).toArray 70)) := by
 unfold cpuL at *
 simp [execOp, ho, ht, go_sem]
theorem q3_ (w : World) : Calls Tryz.prog 88 #[.slice none 0 0] w fun e w' => e = .returned (.func (.func 184) #[] #[.pointer (some ⟨w.heap.size, 0, none⟩)]) ∧ w' = w.alloc (.cells #[.slice none 0 0] 71) := by
 go_enter Tryz.func88, Tryz.ntmps88
 go_wp2
 go_ret
 exact ⟨rfl, rfl⟩
theorem xu_ : (Tryz.prog.info? 202).map (fun i => (i.zero, i.size, i.bytes)) = some (some (.agg #[.int .i64 0, .int .i64 0, .int .i64 0, .string ⟨#[]⟩, .int .i64 0, .bool false, .string ⟨#[]⟩, .int .i64 0, .string ⟨#[]⟩, .int .i64 0, .slice none 0 0, .slice none 0 0]), 12, 152) := by kernel_rfl
theorem k8_ (n : Nat) (q : Nat) (w0 : World) (hq : w0.cell? ⟨q, 0, none⟩ = some (.slice none 0 0)) (hl : q < w0.heap.size) (Kp : World → World → Prop) :
 SeqStopsK (α := Empty) Fence.wide n Tryz.prog 184 #[.pointer (some ⟨q, 0, none⟩)] (fun x => x.elim) Kp (fun _ => True) (fun _ => False) 0 w0 := by
 intro l J Jx W hb _ _ _ hJ
 refine callsIn_wide.2 ?_
 have c0 := (hb.cell (p := ⟨q, 0, none⟩) hl).trans hq
 have lq := Nat.lt_of_lt_of_le hl hb.size
 show Calls Tryz.prog 184 #[.func (.yield l) #[] #[], .pointer (some ⟨q, 0, none⟩)] W _
 go_enter Tryz.func184, Tryz.ntmps184
 go_wp2
 refine wp_loop_rounds 1 ?_
 rw [rounds_succ]
 go_wp2
 go_end0
 exact ⟨⟨_, rfl⟩, .inl ⟨[], trivial, hJ⟩⟩
theorem si_ (m0 : Option Addr) (m1 m2 : Nat) (th1 : Option Addr) (th2 th3 : Nat) (gm cm gi ci gd cd gc cc : Nat) (B : IB) (ID : ByteArray) (C S : List UInt8) (hC : C.length = 256) (hS : S.length = 1024) (h1 : (S.drop 1008).take 8 = ct_ 536) (h2 : (S.drop 1016).take 8 = ct_ 0) (r : Nat → Int) (hr : r 15 = 2032) (w : World) (h : ViewAt B ID C S gm gi gd gc w) :
 Calls Tryz.prog 43 #[.agg #[.slice m0 m1 m2, .slice none 0 0, .slice th1 th2 th3, .slice (some ⟨gc, 0, none⟩) 2 cc], .agg (vOne gm cm gi ci gd cd gc cc), .agg (dtC r 576).toArray] w fun e w' => (∃ g c, e = .returned (.slice (some ⟨g, 0, none⟩) 2 c)) ∧ Below w.heap.size w w' := by
 have HH := h1_ h
 have HS := h5_ hC hS h1 h2 hr
 clear h hC hS h1 h2 hr
 refine (callsIn_wide (n := 4)).1 ?_
 refine callsIn_of_wp_marks Tryz.func43 rfl trivial ?_ rfl
 simp only [Tryz.ntmps43, List.size_toArray, List.length_cons, List.length_nil, Nat.reduceAdd, Nat.reduceSub, Array.replicate_succ, Array.replicate_zero, List.push_toArray, List.append_toArray, List.nil_append, List.cons_append]
 refine wpIn_wide.2 ?_
 unfold vOne gg_
 go_upto_region 1 with fail
 refine ac_ fun V hV => ?_
 have vB : Below w.heap.size w V := by rw [← hV]; go_grown
 have v4 : V.heap[w.heap.size + 1]? = some (.cells #[.slice (some ⟨gm, 0, none⟩) 1 cm, .slice none 0 0, .slice (some ⟨gi, 0, none⟩) 1 ci, .slice (some ⟨gd, 0, none⟩) 1 cd, .slice (some ⟨gc, 0, none⟩) 2 cc] 139 (0, 0)) := by rw [← hV]; exact ae_ (block_at (by simp))
 have v5 : V.heap[w.heap.size + 1 + 1]? = some (.cells (dtC r 576).toArray 73 (0, 0)) := by rw [← hV]; exact block_at (by simp)
 have d17 := ab_ v5 17 (dt_17 r 576); have d21 := ab_ v5 21 (dt_21 r 576)
 have lV := lt_of_block v5
 have HV := h3_ vB v4 v5
 clear hV vB v4 v5
 go_upto_region 4 with (first
  | (refine wpList_load_mid rfl 70 (.tmp 22) rfl (w.heap.size + 1 + 1) 0 rfl (cpuL r 576) _ (fun j u hj => by rw [Nat.zero_add]; exact ab_ HV.out.2.2 j (dt_cpu hj)) Tryz.underlying70 rfl (cpu_len r 576) ?_)
  | (refine cf_ rfl (g5_ 23 r 576 _ _ _ rfl rfl) ?_))
 refine ac_ fun X hX => ?_
 have xB : Below V.heap.size V X := by rw [← hX]; go_grown
 have xq : X.heap[V.heap.size]? = some (.cells (cpuL r 576).toArray 70 (0, 0)) := by rw [← hX]; exact ae_ (heap_alloc_new _ _)
 have x7 : X.heap[V.heap.size + 1]? = some (.cells #[.slice (some ⟨V.heap.size, 0, none⟩) 1 1] 71 (0, 0)) := by rw [← hX]; exact block_at (by simp)
 have x4 := at_b xB HV.out.2.1
 have x5 := at_b xB HV.out.2.2
 have d21 := ab_ x5 21 (dt_21 r 576)
 have lx5 := lt_of_block x5
 have lx7 := lt_of_block x7
 have HX := h4_ (HV.out.1.trans (xB.mono HV.out.1.size)) x4 xq x7
 clear hX xB xq x7 x4 x5 HV d17
 go_wp2_with (go_at_call 88; refine (q3_ _).mono ?_; rintro e wz ⟨rfl, hwz⟩; rw [hwz]; clear hwz wz)
 refine ac_ fun Y hY => ?_
 have yB : Below X.heap.size X Y := by rw [← hY]; go_grown
 have yq : Y.cell? ⟨X.heap.size, 0, none⟩ = some (.slice none 0 0) := by rw [← hY]; exact al_ (heap_alloc_new _ _) 0 rfl
 have yl : X.heap.size < Y.heap.size := by rw [← hY]; simp
 have y4 := at_b yB HX.out.2.1
 have yc := at_b yB HX.out.2.2.1
 have y7 := at_b yB HX.out.2.2.2
 have HY := h6_ (HX.out.1.trans (yB.mono HX.out.1.size)) y4 yc y7 yq yl
 clear hY yB yq yl y4 yc y7 d21 HX
 refine (wpIn_wide (n := 4)).1 ?_
 refine wpIn_rangeFunc_ownF (α := Empty) (F := Fence.wide) (n := 4) rfl (by decide) (gf := 184) (lb := #[.pointer (some ⟨X.heap.size, 0, none⟩)]) rfl trivial (enters_of Tryz.func184 (by kernel_rfl) rfl)
  (k8_ _ X.heap.size Y HY.out.2.2.2.2.1 HY.out.2.2.2.2.2 (Below Y.heap.size)) belowK_t (belowK_b (Nat.le_refl _)) (Below.refl _ _) (fun x => x.elim)
  (fun _ W => Below Y.heap.size Y W) (fun _ _ _ => False) (ownFrom_below (Nat.le_refl _) (Nat.le_refl _)) (fun _ => fun _ _ _ _ hs _ _ => hs) (Below.refl _ _) (fun x => x.elim) ?assign ?body ?done ?stop
 case assign => intro l x; exact x.elim
 case body => intro l pre x; exact x.elim
 case stop => intro D c pre W _ h _ _; exact h.elim
 case done =>
  intro D xs W hD _ hI hK
  have k4 := at_b hI HY.out.2.1
  have kq := at_b hI HY.out.2.2.1
  have k7 := at_b hI HY.out.2.2.2.1
  have c7 := al_ k7 0 rfl
  have lk7 := lt_of_block k7
  have B1 := HY.out.1.trans (hI.mono HY.out.1.size)
  have HW := h4_ B1 k4 kq (HH.out.below B1)
  have lyw := HY.out.1.size
  have HK := h2_ hD hK
  clear k4 kq k7 B1 hD hK hI HY
  go_wp2_with (refine wpList_load_row rfl 139 (.tmp 4) rfl (w.heap.size + 1) rfl 139 #[.slice (some ⟨gm, 0, none⟩) 1 cm, .slice none 0 0, .slice (some ⟨gi, 0, none⟩) 1 ci, .slice (some ⟨gd, 0, none⟩) 1 cd, .slice (some ⟨gc, 0, none⟩) 2 cc] (0, 0) _ HW.out.2.1 Tryz.underlying139 rfl (by kernel_rfl) ?_)
  refine (xn_ gm cm gi ci gd cd gc cc B ID C S HS.out.1 HS.out.2.1 HS.out.2.2.1 HS.out.2.2.2.1 V.heap.size 1 r HS.out.2.2.2.2 W HW.out.2.2.2 (fun j u hj => by rw [Nat.zero_add]; exact ab_ HW.out.2.2.1 j hj) (lt_of_block HW.out.2.2.1)).mono ?_
  rintro e w1 ⟨⟨gf, cf, rfl, hown⟩, hb1⟩
  have HF := h1_ hown
  have H1 := h1_ hb1
  clear hown hb1 c7
  go_wp2_with fail
  refine wp_loop_rounds 3 ?_
  obtain ⟨j0, hj, hy0, hy1, hy2⟩ := info_parts xu_
  have vb : ∀ W, Below w1.heap.size w1 W → W.heap[w.heap.size + 1]? = some (.cells #[.slice (some ⟨gm, 0, none⟩) 1 cm, .slice none 0 0, .slice (some ⟨gi, 0, none⟩) 1 ci, .slice (some ⟨gd, 0, none⟩) 1 cd, .slice (some ⟨gc, 0, none⟩) 2 cc] 139 (0, 0)) := fun W hb => (hb.block _ (lt_of_block (at_b H1.out HW.out.2.1))).trans (at_b H1.out HW.out.2.1)
  have va : ∀ W, Below w1.heap.size w1 W → ViewAt B ID C S gm gi gd gc W := fun W hb => (HW.out.2.2.2.below H1.out).below hb
  have vf0 : ∀ W, Below w1.heap.size w1 W → W.rangeAt gf 0 [.int .i64 576, .int .i64 2032, .int .i64 0, .string ID, .int .i64 64, .bool false] := fun W hb j u hj => by
   have h6 : j < 6 := (List.getElem?_eq_some_iff.1 hj).1
   rw [Nat.zero_add]
   refine (hb.cell (p := ⟨gf, j, none⟩) (ah_ HF.out).2.1).trans ((row_cell HF.out j (u := u) ?_).1)
   rw [List.getElem?_append_left (by simpa [frmC] using h6)]
   exact hj
  have vf1 : ∀ W, Below w1.heap.size w1 W → W.rangeAt gf 6 [.int .i64 536, .int .i64 2040, .int .i64 0, .string ID, .int .i64 16, .bool false] := fun W hb j u hj => by
   refine (hb.cell (p := ⟨gf, 6 + j, none⟩) (ah_ HF.out).2.1).trans ((row_cell HF.out (6 + j) (u := u) ?_).1)
   rw [List.getElem?_append_right (by simp [frmC])]
   simpa [frmC] using hj
  have HB := h1_ (Below.refl w1.heap.size w1)
  have lw1 : w.heap.size + 1 < w1.heap.size := lt_of_block (vb w1 HB.out)
  rw [rounds_succ]
  go_upto_region 11 with (first
   | (refine wpList_load_mid rfl 196 (.tmp 41) rfl gf 0 rfl [.int .i64 576, .int .i64 2032, .int .i64 0, .string ID, .int .i64 64, .bool false] _ (vf0 _ HB.out) Tryz.underlying196 rfl (by kernel_rfl) ?_)
   | ((with_reducible refine ad_ ?_); refine wpList_store_row rfl 196 _ _ rfl _ _ rfl rfl _ _ (heap_alloc_new _ _) (by kernel_rfl) rfl (by simp [Value.oneCell']) ?_; (try simp only [World.setRow_alloc_new])))
  refine ac_ fun P0 hP => ?_
  have pB : Below w1.heap.size w1 P0 := by rw [← hP]; go_grown
  have p12 : P0.heap[w1.heap.size]? = some (.cells #[.int .i64 576, .int .i64 2032, .int .i64 0, .string ID, .int .i64 64, .bool false] 196 (0, 0)) := by rw [← hP]; exact heap_alloc_new _ _
  have lc : w1.heap.size ≤ w1.heap.size := HB.out.size
  have bp : Below w1.heap.size w1 P0 := HB.out.trans (pB.mono lc)
  have HP := h2_ bp p12
  have HPB := h1_ pB
  clear hP pB bp p12
  try simp only [Act.put, List.setIfInBounds_toArray, List.set_cons_zero, List.set_cons_succ]
  refine wr_ [.pt (w.heap.size + 1) 2, .val (.slice (some ⟨gi, 0, none⟩) 1 ci), .pt (w.heap.size + 1) 3, .val (.slice (some ⟨gd, 0, none⟩) 1 cd), .pt w1.heap.size 3, .val (.string ID), .val (.int .i64 0), .pt gi 0, .val (.agg (aa_ B)),
   .more (fun v w' => ∃ q, v = .pointer (some ⟨q, 0, none⟩) ∧ P0.heap.size ≤ q ∧ w'.heap[q]? = some (.cells #[.string ⟨#[]⟩, .bool false, .int .i64 0, .int .i64 0, .int .i64 0, .string ⟨#[]⟩, .string ⟨#[]⟩, .int .i64 0, .slice none 0 0, .slice none 0 0, .slice none 0 0, .slice none 0 0, .slice none 0 0, .slice none 0 0, .slice none 0 0, .slice none 0 0, .int .i64 0, .slice none 0 0, .slice none 0 0, .slice none 0 0, .slice none 0 0, .slice none 0 0, .slice none 0 0, .slice none 0 0, .slice none 0 0, .slice none 0 0] 52 (0, 0))) (fun v w' w'' hb h => by obtain ⟨q, h1, h2, h3⟩ := h; exact ⟨q, h1, h2, at_b hb h3⟩)] (by kernel_rfl) (by kernel_rfl) ?_ ?_
  · simp only [ck_, List.take, List.length]
    refine ⟨?_, ?_, ?_, ?_, ?_, ?_, ?_, ?_, ?_, ?_, ?_⟩
    all_goals first | trivial | (intro a wr hb hf hd)
    all_goals have hf4 : zp_ a 4 (w.heap.size + 1) 0 := (hf 4).trans rfl
    all_goals have hf12 : zp_ a 12 w1.heap.size 0 := (hf 12).trans rfl
    all_goals have hbw : Below w1.heap.size w1 wr := HP.out.1.trans (hb.mono HP.out.1.size)
    · exact gp_ (by simp [execOp, hf4, go_sem])
    · have h43 : z_ a 43 _ := hd 0
      have hc := al_ (vb _ hbw) 2 rfl
      exact gp_ (by simp [execOp, h43, hc, go_sem])
    · exact gp_ (by simp [execOp, hf4, go_sem])
    · have h45 : z_ a 45 _ := hd 2
      have hc := al_ (vb _ hbw) 3 rfl
      exact gp_ (by simp [execOp, h45, hc, go_sem])
    · exact gp_ (by simp [execOp, hf12, go_sem])
    · have h47 : z_ a 47 _ := hd 4
      have hc := al_ (at_b hb HP.out.2) 3 rfl
      exact gp_ (by simp [execOp, h47, hc, go_sem])
    · have h46 : z_ a 46 _ := hd 3
      have h48 : z_ a 48 _ := hd 5
      refine cu_ (f := 90) (args := #[.slice (some ⟨gd, 0, none⟩) 1 cd, .string ID]) (by simp [execOp, h46, h48, go_sem]) ?_
      refine (jx_ gd cd ID _ (va _ hbw).ids).mono ?_
      rintro e w3 ⟨rfl, hw3⟩
      exact ⟨_, rfl, by rw [hw3]; exact Below.refl _ _, rfl, fun h => by cases h⟩
    · have h44 : z_ a 44 _ := hd 1
      have h49 : z_ a 49 _ := hd 6
      exact gp_ (by simp [execOp, h44, h49, go_sem])
    · have h50 : z_ a 50 _ := hd 7
      exact av_ (v := .agg (aa_ B)) (gu_ 50 52 rfl gi 0 h50 (aa_ B).toList _ (va _ hbw).imgs Tryz.underlying52 rfl (au_ B)) (Below.refl _ _) ⟨rfl, fun h => by cases h⟩
    · exact av_ (v := .pointer (some ⟨wr.heap.size, 0, none⟩)) (w' := wr.alloc (.cells #[.string ⟨#[]⟩, .bool false, .int .i64 0, .int .i64 0, .int .i64 0, .string ⟨#[]⟩, .string ⟨#[]⟩, .int .i64 0, .slice none 0 0, .slice none 0 0, .slice none 0 0, .slice none 0 0, .slice none 0 0, .slice none 0 0, .slice none 0 0, .slice none 0 0, .int .i64 0, .slice none 0 0, .slice none 0 0, .slice none 0 0, .slice none 0 0, .slice none 0 0, .slice none 0 0, .slice none 0 0, .slice none 0 0, .slice none 0 0] 52)) (by simp [execOp, go_sem]) ((Below.refl _ _).alloc (Nat.le_refl _) _) ⟨⟨_, rfl, hb.size, heap_alloc_new _ _⟩, fun h => by cases h⟩
  · intro fv x0 hbx hs hn hne
    obtain ⟨bi, g13, lbi, kbi⟩ : ∃ q, fv 13 = .pointer (some ⟨q, 0, none⟩) ∧ P0.heap.size ≤ q ∧ x0.heap[q]? = some (.cells #[.string ⟨#[]⟩, .bool false, .int .i64 0, .int .i64 0, .int .i64 0, .string ⟨#[]⟩, .string ⟨#[]⟩, .int .i64 0, .slice none 0 0, .slice none 0 0, .slice none 0 0, .slice none 0 0, .slice none 0 0, .slice none 0 0, .slice none 0 0, .slice none 0 0, .int .i64 0, .slice none 0 0, .slice none 0 0, .slice none 0 0, .slice none 0 0, .slice none 0 0, .slice none 0 0, .slice none 0 0, .slice none 0 0, .slice none 0 0] 52 (0, 0)) := hs 9 (by simp)
    rw [facv hs [43, 44, 45, 46, 47, 48, 49, 50, 51, 13] (by kernel_rfl)]
    simp only [actG, Act.put, List.drop, List.length, g13, List.setIfInBounds_toArray, List.set_cons_zero, List.set_cons_succ]
    clear hs hn hne g13
    have HX := h2_ hbx kbi
    have CX := h1_ (HPB.out.trans (hbx.mono HPB.out.size))
    have lcP := HPB.out.size
    clear hbx kbi
    go_upto_region 12 with ((with_reducible refine ad_ ?_); refine wpList_store_row rfl 52 _ _ rfl _ _ rfl rfl _ _ HX.out.2 (au_ B) (by unfold aa_; rfl) (eq_ B) ?_)
    refine ac_ fun Q0 hQ => ?_
    have qo : Only (· = bi) x0 Q0 := by rw [← hQ]; exact (Only.refl (· = bi) x0).setRow _ _ (.inl rfl)
    have qi : Q0.heap[bi]? = some (.cells (aa_ B) 52 (0, 0)) := by rw [← hQ]; exact setRow_heap _ _ _ _ _ _ HX.out.2
    have q12 := qo.kept (at_b HX.out.1 HP.out.2) (by have := lt_of_block HP.out.2; omega)
    have bq : Below w1.heap.size w1 Q0 := ((Only.of_below_le (HP.out.1.trans (HX.out.1.mono HP.out.1.size)) (fun k _ h => h) : Only (fun b => w1.heap.size ≤ b) w1 x0).then qo (by intro k _ h; have := HP.out.1.size; omega)).below (Nat.le_refl _) (fun k h => h)
    have CQ := h1_ (((Only.of_below_le CX.out (fun k _ h => h) : Only (fun b => w1.heap.size ≤ b) w1 x0).then qo (by intro k _ h; omega)).below (Nat.le_refl _) (fun k h => h))
    have lcQ := CQ.out.size
    have lqi := lt_of_block qi
    have lq12 := lt_of_block q12
    have HQ := h3_ bq qi q12
    clear hQ qo qi q12 bq
    go_upto_region 13 with (first
     | (refine wpList_load_row rfl 196 (.tmp 12) rfl w1.heap.size rfl 196 #[.int .i64 576, .int .i64 2032, .int .i64 0, .string ID, .int .i64 64, .bool false] (0, 0) _ HQ.out.2.2 Tryz.underlying196 rfl (by kernel_rfl) ?_)
     | ((with_reducible refine ad_ ?_); refine wpList_store_row rfl 202 _ _ rfl _ _ rfl rfl _ _ (heap_alloc_new _ _) (by kernel_rfl) rfl (by simp [Value.oneCell']) ?_; (try simp only [World.setRow_alloc_new])))
    refine ac_ fun R0 hR => ?_
    have rB : Below Q0.heap.size Q0 R0 := by rw [← hR]; go_grown
    have r14 : R0.heap[Q0.heap.size]? = some (.cells ([.int .i64 576, .int .i64 2032, .int .i64 0, .string ID, .int .i64 64, .bool false, .string ⟨#[]⟩, .int .i64 0, .string ⟨#[]⟩, .int .i64 0, .slice none 0 0, .slice none 0 0]).toArray 202 (0, 0)) := by rw [← hR]; exact heap_alloc_new _ _
    have ri := at_b rB HQ.out.2.1
    have r12 := at_b rB HQ.out.2.2
    have br := HQ.out.1.trans (rB.mono HQ.out.1.size)
    have CR := h1_ (CQ.out.trans (rB.mono lcQ))
    have lcR := CR.out.size
    have d4 := al_ r12 4 rfl
    have lr12 := lt_of_block r12
    have lri := lt_of_block ri
    have HR := h4_ br ri r12 r14
    clear hR rB r14 ri r12 br HQ HX
    go_wp2_with (refine wpList_load_row rfl 52 (.tmp 13) rfl bi rfl 52 (aa_ B) (0, 0) _ HR.out.2.1 Tryz.underlying52 rfl (au_ B) ?_)
    go_at_call 91
    refine (lat B 64 _).mono ?_
    rintro e s0 ⟨rfl, hbs⟩
    have k14 := at_b hbs HR.out.2.2.2
    have ki := at_b hbs HR.out.2.1
    have k12 := at_b hbs HR.out.2.2.1
    have bs := HR.out.1.trans (hbs.mono HR.out.1.size)
    have lk14 := lt_of_block k14
    have hn14 : w1.heap.size ≤ Q0.heap.size := by have := HP.out.1.size; omega
    have CS1 := h1_ (CR.out.trans (hbs.mono lcR))
    have HS1 := h4_ bs ki k12 k14
    clear hbs k14 ki k12 bs HR d4
    unfold zSpot
    go_upto_region 14 with ((with_reducible refine ad_ ?_); refine wpList_store_mid rfl 199 _ _ rfl Q0.heap.size 6 #[.string ⟨#[]⟩, .int .i64 0, .string ⟨#[]⟩, .int .i64 0, .slice none 0 0] rfl rfl ?ht (by kernel_rfl) (by simp [Value.oneCell']) ?_)
    case ht =>
     intro j hj
     have hj' : j < 5 := hj
     have e1 : ∃ u, ([.int .i64 576, .int .i64 2032, .int .i64 0, .string ID, .int .i64 64, .bool false, .string ⟨#[]⟩, .int .i64 0, .string ⟨#[]⟩, .int .i64 0, .slice none 0 0, .slice none 0 0] : List Value)[6 + j]? = some u := ⟨_, List.getElem?_eq_getElem (by simp; omega)⟩
     obtain ⟨u, hu⟩ := e1
     rw [ab_ HS1.out.2.2.2 (6 + j) hu]
     exact ⟨rfl, ag_ HS1.out.2.2.2 _⟩
    refine ac_ fun T0 hT => ?_
    have tto : Only (· = Q0.heap.size) s0 T0 := by rw [← hT]; exact Only.setCells (S := (· = Q0.heap.size)) _ (.inl rfl) _ 6 _ (Only.refl _ _)
    have t14 : T0.heap[Q0.heap.size]? = some (.cells ([.int .i64 576, .int .i64 2032, .int .i64 0, .string ID, .int .i64 64, .bool false, .string ⟨#[]⟩, .int .i64 0, .string ⟨#[]⟩, .int .i64 0, .slice none 0 0, .slice none 0 0]).toArray 202 (0, 0)) := by rw [← hT]; exact cw_ _ _ _ _ _ 6 _ (by simp) HS1.out.2.2.2
    have ti := tto.kept HS1.out.2.1 (by omega)
    have t12 := tto.kept HS1.out.2.2.1 (by omega)
    have bt : Below w1.heap.size w1 T0 := ((Only.of_below_le HS1.out.1 (fun k _ h => h) : Only (fun b => w1.heap.size ≤ b) w1 s0).then tto (by intro k _ h; omega)).below (Nat.le_refl _) (fun k h => h)
    have CT := h1_ (((Only.of_below_le CS1.out (fun k _ h => h) : Only (fun b => w1.heap.size ≤ b) w1 s0).then tto (by intro k _ h; omega)).below (Nat.le_refl _) (fun k h => h))
    have lcT := CT.out.size
    have d4 := al_ t12 4 rfl
    have lt12 := lt_of_block t12
    have HT := h3_ bt ti t14
    clear hT tto t14 ti t12 bt HS1
    go_wp2_with (refine wpList_load_row rfl 52 (.tmp 13) rfl bi rfl 52 (aa_ B) (0, 0) _ HT.out.2.1 Tryz.underlying52 rfl (au_ B) ?_)
    go_at_call 92
    refine (lvars B 64 _).mono ?_
    rintro e y0 ⟨rfl, hby⟩
    have k14 := at_b hby HT.out.2.2
    have by1 := HT.out.1.trans (hby.mono HT.out.1.size)
    have lk14 := lt_of_block k14
    have CY := h1_ (CT.out.trans (hby.mono lcT))
    have HY := h2_ by1 k14
    have ly := by1.size
    clear hby k14 by1 HT d4
    go_wp2_with fail
    refine wp_loop_rounds 1 ?_
    rw [rounds_succ]
    go_wp2_with (first
     | (refine wpList_load_row rfl 202 (.tmp 14) rfl Q0.heap.size rfl 202 #[.int .i64 576, .int .i64 2032, .int .i64 0, .string ID, .int .i64 64, .bool false, .string ⟨#[]⟩, .int .i64 0, .string ⟨#[]⟩, .int .i64 0, .slice none 0 0, .slice none 0 0] (0, 0) _ HY.out.2 Tryz.underlying202 rfl (by kernel_rfl) ?_)
     | (at_builtin; refine wpList_append_lies _ rfl _ _ _ rfl w1.heap.size 202 j0 _ 12 152 Tryz.underlying63 hj hy0 hy1 hy2 rfl (by omega) _ 0 _ rfl (World.ownsRow_nil _ w1.heap.size 202 12) ⟨y0.heap.size, 0, none⟩ 1 1 [.int .i64 576, .int .i64 2032, .int .i64 0, .string ID, .int .i64 64, .bool false, .string ⟨#[]⟩, .int .i64 0, .string ⟨#[]⟩, .int .i64 0, .slice none 0 0, .slice none 0 0] rfl rfl ?n1 ?n2 (by omega) ?n3 ?n4 ?n5 (y0.heap.size + 1) (by simp) ?_))
    case n1 => exact World.news_of_block (cs := #[.int .i64 576, .int .i64 2032, .int .i64 0, .string ID, .int .i64 64, .bool false, .string ⟨#[]⟩, .int .i64 0, .string ⟨#[]⟩, .int .i64 0, .slice none 0 0, .slice none 0 0]) (t := 202) (fr := (0, 0)) (heap_alloc_new y0 _)
    case n2 => simp [Value.oneCell']
    case n3 => unfold maxLen; omega
    case n4 => omega
    case n5 => simp; omega
    intro gl0 cl0 e0 hown hgrow hat hlt
    have be : Below w1.heap.size w1 e0 := (HY.out.1.alloc ly _).grown hgrow (by simp; omega) (fun q hq => by simp [Value.ownBlock] at hq)
    try simp only [Nat.zero_add, Nat.reduceAdd, List.nil_append] at hown
    clear HB
    have HB := h1_ be
    have HO := h1_ hown
    clear be hown hgrow hat hlt HP HPB CX CQ CR CS1 CT CY HY
    go_wp2
    rw [rounds_succ]
    go_upto_region 11 with (first
     | (refine wpList_load_mid rfl 196 (.tmp 41) rfl gf 6 rfl [.int .i64 536, .int .i64 2040, .int .i64 0, .string ID, .int .i64 16, .bool false] _ (vf1 _ HB.out) Tryz.underlying196 rfl (by kernel_rfl) ?_)
     | ((with_reducible refine ad_ ?_); refine wpList_store_row rfl 196 _ _ rfl _ _ rfl rfl _ _ (heap_alloc_new _ _) (by kernel_rfl) rfl (by simp [Value.oneCell']) ?_; (try simp only [World.setRow_alloc_new])))
    refine ac_ fun P1 hP => ?_
    have pB : Below e0.heap.size e0 P1 := by rw [← hP]; go_grown
    have p12 : P1.heap[e0.heap.size]? = some (.cells #[.int .i64 536, .int .i64 2040, .int .i64 0, .string ID, .int .i64 16, .bool false] 196 (0, 0)) := by rw [← hP]; exact heap_alloc_new _ _
    have lc : w1.heap.size ≤ e0.heap.size := HB.out.size
    have bp : Below w1.heap.size w1 P1 := HB.out.trans (pB.mono lc)
    have HP := h2_ bp p12
    have HPB := h1_ pB
    clear hP pB bp p12
    try simp only [Act.put, List.setIfInBounds_toArray, List.set_cons_zero, List.set_cons_succ]
    refine wr_ [.pt (w.heap.size + 1) 2, .val (.slice (some ⟨gi, 0, none⟩) 1 ci), .pt (w.heap.size + 1) 3, .val (.slice (some ⟨gd, 0, none⟩) 1 cd), .pt e0.heap.size 3, .val (.string ID), .val (.int .i64 0), .pt gi 0, .val (.agg (aa_ B)),
     .more (fun v w' => ∃ q, v = .pointer (some ⟨q, 0, none⟩) ∧ P1.heap.size ≤ q ∧ w'.heap[q]? = some (.cells #[.string ⟨#[]⟩, .bool false, .int .i64 0, .int .i64 0, .int .i64 0, .string ⟨#[]⟩, .string ⟨#[]⟩, .int .i64 0, .slice none 0 0, .slice none 0 0, .slice none 0 0, .slice none 0 0, .slice none 0 0, .slice none 0 0, .slice none 0 0, .slice none 0 0, .int .i64 0, .slice none 0 0, .slice none 0 0, .slice none 0 0, .slice none 0 0, .slice none 0 0, .slice none 0 0, .slice none 0 0, .slice none 0 0, .slice none 0 0] 52 (0, 0))) (fun v w' w'' hb h => by obtain ⟨q, h1, h2, h3⟩ := h; exact ⟨q, h1, h2, at_b hb h3⟩)] (by kernel_rfl) (by kernel_rfl) ?_ ?_
    · simp only [ck_, List.take, List.length]
      refine ⟨?_, ?_, ?_, ?_, ?_, ?_, ?_, ?_, ?_, ?_, ?_⟩
      all_goals first | trivial | (intro a wr hb hf hd)
      all_goals have hf4 : zp_ a 4 (w.heap.size + 1) 0 := (hf 4).trans rfl
      all_goals have hf12 : zp_ a 12 e0.heap.size 0 := (hf 12).trans rfl
      all_goals have hbw : Below w1.heap.size w1 wr := HP.out.1.trans (hb.mono HP.out.1.size)
      · exact gp_ (by simp [execOp, hf4, go_sem])
      · have h43 : z_ a 43 _ := hd 0
        have hc := al_ (vb _ hbw) 2 rfl
        exact gp_ (by simp [execOp, h43, hc, go_sem])
      · exact gp_ (by simp [execOp, hf4, go_sem])
      · have h45 : z_ a 45 _ := hd 2
        have hc := al_ (vb _ hbw) 3 rfl
        exact gp_ (by simp [execOp, h45, hc, go_sem])
      · exact gp_ (by simp [execOp, hf12, go_sem])
      · have h47 : z_ a 47 _ := hd 4
        have hc := al_ (at_b hb HP.out.2) 3 rfl
        exact gp_ (by simp [execOp, h47, hc, go_sem])
      · have h46 : z_ a 46 _ := hd 3
        have h48 : z_ a 48 _ := hd 5
        refine cu_ (f := 90) (args := #[.slice (some ⟨gd, 0, none⟩) 1 cd, .string ID]) (by simp [execOp, h46, h48, go_sem]) ?_
        refine (jx_ gd cd ID _ (va _ hbw).ids).mono ?_
        rintro e w3 ⟨rfl, hw3⟩
        exact ⟨_, rfl, by rw [hw3]; exact Below.refl _ _, rfl, fun h => by cases h⟩
      · have h44 : z_ a 44 _ := hd 1
        have h49 : z_ a 49 _ := hd 6
        exact gp_ (by simp [execOp, h44, h49, go_sem])
      · have h50 : z_ a 50 _ := hd 7
        exact av_ (v := .agg (aa_ B)) (gu_ 50 52 rfl gi 0 h50 (aa_ B).toList _ (va _ hbw).imgs Tryz.underlying52 rfl (au_ B)) (Below.refl _ _) ⟨rfl, fun h => by cases h⟩
      · exact av_ (v := .pointer (some ⟨wr.heap.size, 0, none⟩)) (w' := wr.alloc (.cells #[.string ⟨#[]⟩, .bool false, .int .i64 0, .int .i64 0, .int .i64 0, .string ⟨#[]⟩, .string ⟨#[]⟩, .int .i64 0, .slice none 0 0, .slice none 0 0, .slice none 0 0, .slice none 0 0, .slice none 0 0, .slice none 0 0, .slice none 0 0, .slice none 0 0, .int .i64 0, .slice none 0 0, .slice none 0 0, .slice none 0 0, .slice none 0 0, .slice none 0 0, .slice none 0 0, .slice none 0 0, .slice none 0 0, .slice none 0 0] 52)) (by simp [execOp, go_sem]) ((Below.refl _ _).alloc (Nat.le_refl _) _) ⟨⟨_, rfl, hb.size, heap_alloc_new _ _⟩, fun h => by cases h⟩
    · intro fv x1 hbx hs hn hne
      obtain ⟨bi, g13, lbi, kbi⟩ : ∃ q, fv 13 = .pointer (some ⟨q, 0, none⟩) ∧ P1.heap.size ≤ q ∧ x1.heap[q]? = some (.cells #[.string ⟨#[]⟩, .bool false, .int .i64 0, .int .i64 0, .int .i64 0, .string ⟨#[]⟩, .string ⟨#[]⟩, .int .i64 0, .slice none 0 0, .slice none 0 0, .slice none 0 0, .slice none 0 0, .slice none 0 0, .slice none 0 0, .slice none 0 0, .slice none 0 0, .int .i64 0, .slice none 0 0, .slice none 0 0, .slice none 0 0, .slice none 0 0, .slice none 0 0, .slice none 0 0, .slice none 0 0, .slice none 0 0, .slice none 0 0] 52 (0, 0)) := hs 9 (by simp)
      rw [facv hs [43, 44, 45, 46, 47, 48, 49, 50, 51, 13] (by kernel_rfl)]
      simp only [actG, Act.put, List.drop, List.length, g13, List.setIfInBounds_toArray, List.set_cons_zero, List.set_cons_succ]
      clear hs hn hne g13
      have HX := h2_ hbx kbi
      have CX := h1_ (HPB.out.trans (hbx.mono HPB.out.size))
      have lcP := HPB.out.size
      clear hbx kbi
      go_upto_region 12 with ((with_reducible refine ad_ ?_); refine wpList_store_row rfl 52 _ _ rfl _ _ rfl rfl _ _ HX.out.2 (au_ B) (by unfold aa_; rfl) (eq_ B) ?_)
      refine ac_ fun Q1 hQ => ?_
      have qo : Only (· = bi) x1 Q1 := by rw [← hQ]; exact (Only.refl (· = bi) x1).setRow _ _ (.inl rfl)
      have qi : Q1.heap[bi]? = some (.cells (aa_ B) 52 (0, 0)) := by rw [← hQ]; exact setRow_heap _ _ _ _ _ _ HX.out.2
      have q12 := qo.kept (at_b HX.out.1 HP.out.2) (by have := lt_of_block HP.out.2; omega)
      have bq : Below w1.heap.size w1 Q1 := ((Only.of_below_le (HP.out.1.trans (HX.out.1.mono HP.out.1.size)) (fun k _ h => h) : Only (fun b => w1.heap.size ≤ b) w1 x1).then qo (by intro k _ h; have := HP.out.1.size; omega)).below (Nat.le_refl _) (fun k h => h)
      have CQ := h1_ (((Only.of_below_le CX.out (fun k _ h => h) : Only (fun b => e0.heap.size ≤ b) e0 x1).then qo (by intro k _ h; omega)).below (Nat.le_refl _) (fun k h => h))
      have lcQ := CQ.out.size
      have lqi := lt_of_block qi
      have lq12 := lt_of_block q12
      have HQ := h3_ bq qi q12
      clear hQ qo qi q12 bq
      go_upto_region 13 with (first
       | (refine wpList_load_row rfl 196 (.tmp 12) rfl e0.heap.size rfl 196 #[.int .i64 536, .int .i64 2040, .int .i64 0, .string ID, .int .i64 16, .bool false] (0, 0) _ HQ.out.2.2 Tryz.underlying196 rfl (by kernel_rfl) ?_)
       | ((with_reducible refine ad_ ?_); refine wpList_store_row rfl 202 _ _ rfl _ _ rfl rfl _ _ (heap_alloc_new _ _) (by kernel_rfl) rfl (by simp [Value.oneCell']) ?_; (try simp only [World.setRow_alloc_new])))
      refine ac_ fun R1 hR => ?_
      have rB : Below Q1.heap.size Q1 R1 := by rw [← hR]; go_grown
      have r14 : R1.heap[Q1.heap.size]? = some (.cells ([.int .i64 536, .int .i64 2040, .int .i64 0, .string ID, .int .i64 16, .bool false, .string ⟨#[]⟩, .int .i64 0, .string ⟨#[]⟩, .int .i64 0, .slice none 0 0, .slice none 0 0]).toArray 202 (0, 0)) := by rw [← hR]; exact heap_alloc_new _ _
      have ri := at_b rB HQ.out.2.1
      have r12 := at_b rB HQ.out.2.2
      have br := HQ.out.1.trans (rB.mono HQ.out.1.size)
      have CR := h1_ (CQ.out.trans (rB.mono lcQ))
      have lcR := CR.out.size
      have d4 := al_ r12 4 rfl
      have lr12 := lt_of_block r12
      have lri := lt_of_block ri
      have HR := h4_ br ri r12 r14
      clear hR rB r14 ri r12 br HQ HX
      go_wp2_with (refine wpList_load_row rfl 52 (.tmp 13) rfl bi rfl 52 (aa_ B) (0, 0) _ HR.out.2.1 Tryz.underlying52 rfl (au_ B) ?_)
      go_at_call 91
      refine (lat B 16 _).mono ?_
      rintro e s1 ⟨rfl, hbs⟩
      have k14 := at_b hbs HR.out.2.2.2
      have ki := at_b hbs HR.out.2.1
      have k12 := at_b hbs HR.out.2.2.1
      have bs := HR.out.1.trans (hbs.mono HR.out.1.size)
      have lk14 := lt_of_block k14
      have hn14 : w1.heap.size ≤ Q1.heap.size := by have := HP.out.1.size; omega
      have CS1 := h1_ (CR.out.trans (hbs.mono lcR))
      have HS1 := h4_ bs ki k12 k14
      clear hbs k14 ki k12 bs HR d4
      unfold zSpot
      go_upto_region 14 with ((with_reducible refine ad_ ?_); refine wpList_store_mid rfl 199 _ _ rfl Q1.heap.size 6 #[.string ⟨#[]⟩, .int .i64 0, .string ⟨#[]⟩, .int .i64 0, .slice none 0 0] rfl rfl ?ht (by kernel_rfl) (by simp [Value.oneCell']) ?_)
      case ht =>
       intro j hj
       have hj' : j < 5 := hj
       have e1 : ∃ u, ([.int .i64 536, .int .i64 2040, .int .i64 0, .string ID, .int .i64 16, .bool false, .string ⟨#[]⟩, .int .i64 0, .string ⟨#[]⟩, .int .i64 0, .slice none 0 0, .slice none 0 0] : List Value)[6 + j]? = some u := ⟨_, List.getElem?_eq_getElem (by simp; omega)⟩
       obtain ⟨u, hu⟩ := e1
       rw [ab_ HS1.out.2.2.2 (6 + j) hu]
       exact ⟨rfl, ag_ HS1.out.2.2.2 _⟩
      refine ac_ fun T1 hT => ?_
      have tto : Only (· = Q1.heap.size) s1 T1 := by rw [← hT]; exact Only.setCells (S := (· = Q1.heap.size)) _ (.inl rfl) _ 6 _ (Only.refl _ _)
      have t14 : T1.heap[Q1.heap.size]? = some (.cells ([.int .i64 536, .int .i64 2040, .int .i64 0, .string ID, .int .i64 16, .bool false, .string ⟨#[]⟩, .int .i64 0, .string ⟨#[]⟩, .int .i64 0, .slice none 0 0, .slice none 0 0]).toArray 202 (0, 0)) := by rw [← hT]; exact cw_ _ _ _ _ _ 6 _ (by simp) HS1.out.2.2.2
      have ti := tto.kept HS1.out.2.1 (by omega)
      have t12 := tto.kept HS1.out.2.2.1 (by omega)
      have bt : Below w1.heap.size w1 T1 := ((Only.of_below_le HS1.out.1 (fun k _ h => h) : Only (fun b => w1.heap.size ≤ b) w1 s1).then tto (by intro k _ h; omega)).below (Nat.le_refl _) (fun k h => h)
      have CT := h1_ (((Only.of_below_le CS1.out (fun k _ h => h) : Only (fun b => e0.heap.size ≤ b) e0 s1).then tto (by intro k _ h; omega)).below (Nat.le_refl _) (fun k h => h))
      have lcT := CT.out.size
      have d4 := al_ t12 4 rfl
      have lt12 := lt_of_block t12
      have HT := h3_ bt ti t14
      clear hT tto t14 ti t12 bt HS1
      go_wp2_with (refine wpList_load_row rfl 52 (.tmp 13) rfl bi rfl 52 (aa_ B) (0, 0) _ HT.out.2.1 Tryz.underlying52 rfl (au_ B) ?_)
      go_at_call 92
      refine (lvars B 16 _).mono ?_
      rintro e y1 ⟨rfl, hby⟩
      have k14 := at_b hby HT.out.2.2
      have by1 := HT.out.1.trans (hby.mono HT.out.1.size)
      have lk14 := lt_of_block k14
      have CY := h1_ (CT.out.trans (hby.mono lcT))
      have HY := h2_ by1 k14
      have ly := by1.size
      clear hby k14 by1 HT d4
      go_wp2_with fail
      refine wp_loop_rounds 1 ?_
      rw [rounds_succ]
      go_wp2_with (first
       | (refine wpList_load_row rfl 202 (.tmp 14) rfl Q1.heap.size rfl 202 #[.int .i64 536, .int .i64 2040, .int .i64 0, .string ID, .int .i64 16, .bool false, .string ⟨#[]⟩, .int .i64 0, .string ⟨#[]⟩, .int .i64 0, .slice none 0 0, .slice none 0 0] (0, 0) _ HY.out.2 Tryz.underlying202 rfl (by kernel_rfl) ?_)
       | (at_builtin; refine wpList_append_lies _ rfl _ _ _ rfl w1.heap.size 202 j0 _ 12 152 Tryz.underlying63 hj hy0 hy1 hy2 rfl (by omega) _ 1 _ rfl ((ai_ HO.out CY.out).alloc _) ⟨y1.heap.size, 0, none⟩ 1 1 [.int .i64 536, .int .i64 2040, .int .i64 0, .string ID, .int .i64 16, .bool false, .string ⟨#[]⟩, .int .i64 0, .string ⟨#[]⟩, .int .i64 0, .slice none 0 0, .slice none 0 0] rfl rfl ?n1 ?n2 (by omega) ?n3 ?n4 ?n5 (y1.heap.size + 1) (by simp) ?_))
      case n1 => exact World.news_of_block (cs := #[.int .i64 536, .int .i64 2040, .int .i64 0, .string ID, .int .i64 16, .bool false, .string ⟨#[]⟩, .int .i64 0, .string ⟨#[]⟩, .int .i64 0, .slice none 0 0, .slice none 0 0]) (t := 202) (fr := (0, 0)) (heap_alloc_new y1 _)
      case n2 => simp [Value.oneCell']
      case n3 => unfold maxLen; omega
      case n4 => omega
      case n5 => simp; omega
      intro gl1 cl1 e1 hown hgrow hat hlt
      have be : Below w1.heap.size w1 e1 := (HY.out.1.alloc ly _).grown hgrow (by simp; omega) (fun q hq => by simp only [Value.ownBlock, Option.some.injEq] at hq; subst hq; exact (ah_ HO.out).1)
      try simp only [Nat.zero_add, Nat.reduceAdd, List.nil_append] at hown
      clear HB HO
      have HB := h1_ be
      have HO := h1_ hown
      clear be hown hgrow hat hlt HP HPB CX CQ CR CS1 CT CY HY
      go_wp2
      rw [rounds_succ]
      go_wp2
      have hend : Below w.heap.size w e1 := HW.out.1.trans ((H1.out.trans (HB.out.mono H1.out.size)).mono HW.out.1.size)
      have hK : e1.heap[D]? = some (.deferred (some [])) := (HB.out.block _ (by have := H1.out.size; have := (Array.getElem?_eq_some_iff.1 HK.out.2).1; omega)).trans ((H1.out.block _ (Array.getElem?_eq_some_iff.1 HK.out.2).1).trans HK.out.2)
      refine ⟨by simp, .inl ⟨_, _, rfl, run_takeDeferred hK, ?_⟩⟩
      exact ⟨_, results_tmp rfl _ _ _, ⟨gl1, cl1, rfl⟩, hend.trans (belowK_b (w := w) (Nat.le_refl _) e1 D _ _ (by have := HK.out.1; omega) hK rfl rfl)⟩
end Two
namespace Two
open Go.RowKit
attribute [local go_sem] ak_ af_
attribute [local irreducible] aa_ modC cpuL thrG dtC
theorem pd_ (m0 : Option Addr) (m1 m2 : Nat) (th1 : Option Addr) (th2 th3 : Nat) (gm cm gc cc : Nat) (ID : ByteArray) (r : Nat → Int) (hr : r 15 = 2032) (w : World) (h : w.rangeAt gm 0 [.string labS, .string ID, .int .i64 512, .int .i64 256, .bool false]) (hgm : gm < w.heap.size) :
 Calls Tryz.prog 43 #[.agg #[.slice m0 m1 m2, .slice none 0 0, .slice th1 th2 th3, .slice (some ⟨gc, 0, none⟩) 2 cc], .agg (ng_ gm cm gc cc), .agg (dtC r 576).toArray] w fun e w' => e = .returned (.slice none 0 0) ∧ Below w.heap.size w w' := by
 have HH := h1_ h
 have HS := h1_ hr
 clear h hr
 refine (callsIn_wide (n := 4)).1 ?_
 refine callsIn_of_wp_marks Tryz.func43 rfl trivial ?_ rfl
 simp only [Tryz.ntmps43, List.size_toArray, List.length_cons, List.length_nil, Nat.reduceAdd, Nat.reduceSub, Array.replicate_succ, Array.replicate_zero, List.push_toArray, List.append_toArray, List.nil_append, List.cons_append]
 refine wpIn_wide.2 ?_
 unfold ng_ gg_
 go_upto_region 1 with fail
 refine ac_ fun V hV => ?_
 have vB : Below w.heap.size w V := by rw [← hV]; go_grown
 have v4 : V.heap[w.heap.size + 1]? = some (.cells #[.slice (some ⟨gm, 0, none⟩) 1 cm, .slice none 0 0, .slice none 0 0, .slice none 0 0, .slice (some ⟨gc, 0, none⟩) 2 cc] 139 (0, 0)) := by rw [← hV]; exact ae_ (block_at (by simp))
 have v5 : V.heap[w.heap.size + 1 + 1]? = some (.cells (dtC r 576).toArray 73 (0, 0)) := by rw [← hV]; exact block_at (by simp)
 have d17 := ab_ v5 17 (dt_17 r 576); have d21 := ab_ v5 21 (dt_21 r 576)
 have lV := lt_of_block v5
 have HV := h3_ vB v4 v5
 clear hV vB v4 v5
 go_upto_region 4 with (first
  | (refine wpList_load_mid rfl 70 (.tmp 22) rfl (w.heap.size + 1 + 1) 0 rfl (cpuL r 576) _ (fun j u hj => by rw [Nat.zero_add]; exact ab_ HV.out.2.2 j (dt_cpu hj)) Tryz.underlying70 rfl (cpu_len r 576) ?_)
  | (refine cf_ rfl (g5_ 23 r 576 _ _ _ rfl rfl) ?_))
 refine ac_ fun X hX => ?_
 have xB : Below V.heap.size V X := by rw [← hX]; go_grown
 have xq : X.heap[V.heap.size]? = some (.cells (cpuL r 576).toArray 70 (0, 0)) := by rw [← hX]; exact ae_ (heap_alloc_new _ _)
 have x7 : X.heap[V.heap.size + 1]? = some (.cells #[.slice (some ⟨V.heap.size, 0, none⟩) 1 1] 71 (0, 0)) := by rw [← hX]; exact block_at (by simp)
 have x4 := at_b xB HV.out.2.1
 have x5 := at_b xB HV.out.2.2
 have d21 := ab_ x5 21 (dt_21 r 576)
 have lx5 := lt_of_block x5
 have lx7 := lt_of_block x7
 have HX := h4_ (HV.out.1.trans (xB.mono HV.out.1.size)) x4 xq x7
 clear hX xB xq x7 x4 x5 HV d17
 go_wp2_with (go_at_call 88; refine (q3_ _).mono ?_; rintro e wz ⟨rfl, hwz⟩; rw [hwz]; clear hwz wz)
 refine ac_ fun Y hY => ?_
 have yB : Below X.heap.size X Y := by rw [← hY]; go_grown
 have yq : Y.cell? ⟨X.heap.size, 0, none⟩ = some (.slice none 0 0) := by rw [← hY]; exact al_ (heap_alloc_new _ _) 0 rfl
 have yl : X.heap.size < Y.heap.size := by rw [← hY]; simp
 have y4 := at_b yB HX.out.2.1
 have yc := at_b yB HX.out.2.2.1
 have y7 := at_b yB HX.out.2.2.2
 have HY := h6_ (HX.out.1.trans (yB.mono HX.out.1.size)) y4 yc y7 yq yl
 clear hY yB yq yl y4 yc y7 d21 HX
 refine (wpIn_wide (n := 4)).1 ?_
 refine wpIn_rangeFunc_ownF (α := Empty) (F := Fence.wide) (n := 4) rfl (by decide) (gf := 184) (lb := #[.pointer (some ⟨X.heap.size, 0, none⟩)]) rfl trivial (enters_of Tryz.func184 (by kernel_rfl) rfl)
  (k8_ _ X.heap.size Y HY.out.2.2.2.2.1 HY.out.2.2.2.2.2 (Below Y.heap.size)) belowK_t (belowK_b (Nat.le_refl _)) (Below.refl _ _) (fun x => x.elim)
  (fun _ W => Below Y.heap.size Y W) (fun _ _ _ => False) (ownFrom_below (Nat.le_refl _) (Nat.le_refl _)) (fun _ => fun _ _ _ _ hs _ _ => hs) (Below.refl _ _) (fun x => x.elim) ?assign ?body ?done ?stop
 case assign => intro l x; exact x.elim
 case body => intro l pre x; exact x.elim
 case stop => intro D c pre W _ h _ _; exact h.elim
 case done =>
  intro D xs W hD _ hI hK
  have k4 := at_b hI HY.out.2.1
  have kq := at_b hI HY.out.2.2.1
  have k7 := at_b hI HY.out.2.2.2.1
  have c7 := al_ k7 0 rfl
  have lk7 := lt_of_block k7
  have B1 := HY.out.1.trans (hI.mono HY.out.1.size)
  have HW := h4_ B1 k4 kq (bh_ HH.out hgm B1)
  have lyw := HY.out.1.size
  have HK := h2_ hD hK
  clear k4 kq k7 B1 hD hK hI HY
  go_wp2_with (refine wpList_load_row rfl 139 (.tmp 4) rfl (w.heap.size + 1) rfl 139 #[.slice (some ⟨gm, 0, none⟩) 1 cm, .slice none 0 0, .slice none 0 0, .slice none 0 0, .slice (some ⟨gc, 0, none⟩) 2 cc] (0, 0) _ HW.out.2.1 Tryz.underlying139 rfl (by kernel_rfl) ?_)
  refine (vf_ gm cm gc cc ID V.heap.size 1 r HS.out W HW.out.2.2.2 (Nat.lt_of_lt_of_le hgm HW.out.1.size) (fun j u hj => by rw [Nat.zero_add]; exact ab_ HW.out.2.2.1 j hj) (lt_of_block HW.out.2.2.1)).mono ?_
  rintro e w1 ⟨rfl, hb1⟩
  have H1 := h1_ hb1
  clear hb1 c7
  go_wp2_with fail
  refine wp_loop_rounds 1 ?_
  rw [rounds_succ]
  go_wp2
  have hK : w1.heap[D]? = some (.deferred (some [])) := (H1.out.block _ (Array.getElem?_eq_some_iff.1 HK.out.2).1).trans HK.out.2
  have hend : Below w.heap.size w w1 := HW.out.1.trans (H1.out.mono HW.out.1.size)
  refine ⟨by simp, .inl ⟨_, _, rfl, run_takeDeferred hK, ?_⟩⟩
  exact ⟨_, results_tmp rfl _ _ _, rfl, hend.trans (belowK_b (w := w) (Nat.le_refl _) w1 D _ _ (by have := HK.out.1; omega) hK rfl rfl)⟩
end Two
namespace Two
open Go.RowKit
attribute [local go_sem] ak_ af_
theorem q4_ : (Tryz.prog.info? 63).map (fun i => (i.zero, i.size, i.bytes)) = some (some (.slice none 0 0), 1, 24) := by kernel_rfl
attribute [local irreducible] aa_ modC cpuL thrG dtC
theorem pe_ (t : Nat → Nat) (c : Nat → Int) (gm cm gi ci gc cc th ch : Nat) (B : IB) (hBs : B.bytes.size ≤ 1000000) (C S : List UInt8) (hC : C.length = 256) (hS : S.length = 1024) (h1 : (S.drop 1008).take 8 = ct_ 536) (h2 : (S.drop 1016).take 8 = ct_ 0) (r : Nat → Int) (hr : r 15 = 2032) (w : World) (hT : Tabs t c w)
 (hm : w.rangeAt gm 0 [.string labS, .string ⟨(Dig.sumL t c (imgL B)).toArray⟩, .int .i64 512, .int .i64 256, .bool false]) (hk : w.rangeAt gc 0 [.int .i64 512, .string ⟨C.toArray⟩, .int .i64 1024, .string ⟨S.toArray⟩]) (hi : w.rangeAt gi 0 (aa_ B).toList) (ht : w.rangeAt th 0 (dtC r 576)) (hd : a5_ w B.gd)
 (lm : gm < w.heap.size) (lk : gc < w.heap.size) (li : gi < w.heap.size) (lt : th < w.heap.size) :
 Calls Tryz.prog 13 #[.agg #[.slice (some ⟨gm, 0, none⟩) 1 cm, .slice none 0 0, .slice (some ⟨th, 0, none⟩) 1 ch, .slice (some ⟨gc, 0, none⟩) 2 cc], .slice (some ⟨gi, 0, none⟩) 1 ci] w fun e w' => (∃ g k gl cl, e = .returned (.slice (some ⟨g, 0, none⟩) 1 k) ∧ w'.cell? ⟨g, 0, none⟩ = some (.slice (some ⟨gl, 0, none⟩) 2 cl) ∧ g < w'.heap.size) ∧ Below w.heap.size w w' := by
 obtain ⟨ID, hID⟩ : ∃ ID, ID = (⟨(Dig.sumL t c (imgL B)).toArray⟩ : ByteArray) := ⟨_, rfl⟩
 rw [← hID] at hm
 have HID := h1_ hID
 have HH := h7_ hm hk hi ht hd hT hBs
 have HS := h5_ hC hS h1 h2 hr
 clear hID hm hk hi ht hd hT hBs hC hS h1 h2 hr
 go_enter Tryz.func13, Tryz.ntmps13
 go_upto_region 2 with ((with_reducible refine ad_ ?_); refine wpList_store_row rfl 139 _ _ rfl _ _ rfl rfl _ _ (heap_alloc_new _ _) (by kernel_rfl) rfl (by simp [Value.oneCell']) ?_; (try simp only [World.setRow_alloc_new]))
 refine ac_ fun V hV => ?_
 have vB : Below w.heap.size w V := by rw [← hV]; go_grown
 have v2 : V.heap[w.heap.size]? = some (.cells #[.slice (some ⟨gm, 0, none⟩) 1 cm, .slice none 0 0, .slice (some ⟨th, 0, none⟩) 1 ch, .slice (some ⟨gc, 0, none⟩) 2 cc] 27 (0, 0)) := by rw [← hV]; exact ae_ (heap_alloc_new _ _)
 have v5 : V.heap[w.heap.size + 1]? = some (.cells #[.slice (some ⟨gm, 0, none⟩) 1 cm, .slice none 0 0, .slice (some ⟨gi, 0, none⟩) 1 ci, .slice none 0 0, .slice (some ⟨gc, 0, none⟩) 2 cc] 139 (0, 0)) := by rw [← hV]; exact block_at (by simp)
 have lV := lt_of_block v5
 have HV := h3_ vB v2 v5
 clear hV vB v2 v5
 go_wp2_with fail
 refine wp_loop_rounds 2 ?_
 rw [rounds_succ]
 go_upto_region 5 with (first
  | (refine wpList_load_mid rfl 52 (.tmp 23) rfl gi 0 rfl (aa_ B).toList _ (bh_ HH.out.2.2.1 li HV.out.1) Tryz.underlying52 rfl (au_ B) ?_)
  | ((with_reducible refine ad_ ?_); refine wpList_store_row rfl 52 _ _ rfl _ _ rfl rfl _ _ (heap_alloc_new _ _) (au_ B) (by unfold aa_; rfl) (eq_ B) ?_; (try simp only [World.setRow_alloc_new])))
 refine ac_ fun X hX => ?_
 have xB : Below V.heap.size V X := by rw [← hX]; go_grown
 have x7 : X.heap[V.heap.size]? = some (.cells (aa_ B) 52 (0, 0)) := by rw [← hX]; exact heap_alloc_new _ _
 have x2 := at_b xB HV.out.2.1
 have x5 := at_b xB HV.out.2.2
 have bx := HV.out.1.trans (xB.mono HV.out.1.size)
 have HX := h4_ bx x2 x5 x7
 have lx7 := lt_of_block x7
 clear hX xB x7 x2 x5 bx HV
 try simp only [Act.put, List.setIfInBounds_toArray, List.set_cons_zero, List.set_cons_succ]
 refine wr_ [.pt (w.heap.size + 1) 3, .val (.slice none 0 0), .val (.agg (aa_ B)), .val (.string ID),
  .more (fun v w' => ∃ q, v = sl 1 q ∧ w'.heap[q]? = some (.cells #[.string ID] 9 (0, 0))) (fun v w' w'' hb h => by obtain ⟨q, h1, h2⟩ := h; exact ⟨q, h1, at_b hb h2⟩),
  .more (fun v w' => ∃ g cap, v = .slice (some ⟨g, 0, none⟩) 1 cap ∧ w'.ownsRow X.heap.size 9 1 (.slice (some ⟨g, 0, none⟩) 1 cap) 1 [.string ID]) (fun v w' w'' hb h => by obtain ⟨g, cap, h1, h2⟩ := h; exact ⟨g, cap, h1, ai_ h2 hb⟩),
  .pt (w.heap.size + 1) 3] (by kernel_rfl) (by kernel_rfl) ?_ ?_
 · simp only [ck_, List.take, List.length]
   refine ⟨?_, ?_, ?_, ?_, ?_, ?_, ?_, ?_⟩
   all_goals first | trivial | (intro a wr hb hf hd)
   all_goals have hf5 : zp_ a 5 (w.heap.size + 1) 0 := (hf 5).trans rfl
   all_goals have hf7 : zp_ a 7 V.heap.size 0 := (hf 7).trans rfl
   all_goals have hbw : Below w.heap.size w wr := HX.out.1.trans (hb.mono HX.out.1.size)
   · exact gp_ (by simp [execOp, hf5, go_sem])
   · have h25 : z_ a 25 _ := hd 0
     have hc := al_ (at_b hb HX.out.2.2.1) 3 rfl
     exact gp_ (by simp [execOp, h25, hc, go_sem])
   · exact c9_ 7 52 rfl V.heap.size hf7 _ _ _ _ (at_b hb HX.out.2.2.2) Tryz.underlying52 rfl (au_ B) ⟨rfl, fun h => by cases h⟩
   · have h27 : z_ a 27 _ := hd 2
     refine cu_ (f := 42) (args := #[.agg (aa_ B)]) (by simp [execOp, h27, go_sem]) ?_
     refine (iid t c B _ (HH.out.2.2.2.2.2.1.below hbw) (HH.out.2.2.2.2.1.below hbw) HH.out.2.2.2.2.2.2).mono ?_
     rintro e w3 ⟨rfl, hb3⟩
     exact ⟨_, rfl, hb3, by unfold strB; rw [HID.out]; rfl, fun h => by cases h⟩
   · have h28 : z_ a 28 _ := hd 3
     exact av_ (g4_ 28 ID _ _ _ rfl h28) ((Below.refl _ _).alloc (Nat.le_refl _) _) ⟨⟨_, rfl, heap_alloc_new _ _⟩, fun _ b hb => b2_ hb⟩
   · have h26 : z_ a 26 _ := hd 1
     obtain ⟨q, h29, hq⟩ : ∃ q, a.tmps[(29 : Nat)]?.getD undef = sl 1 q ∧ wr.heap[q]? = some (.cells #[.string ID] 9 (0, 0)) := hd 4
     refine ca_ 26 29 40 9 _ 1 16 rfl Tryz.underlying40 nf_ rfl (by omega) q 1 [.string ID] h26 h29 hq rfl (by simp [Value.oneCell']) (by omega) ?_
     intro cap w' ho hb'
     exact ⟨⟨_, cap, rfl, ap_ ho hb.size⟩, fun h => by cases h⟩
   · exact gp_ (by simp [execOp, hf5, go_sem])
 · intro fv w4 hb4 hs hn hne
   obtain ⟨gd, cd, g30, howd⟩ : ∃ g cap, fv 30 = .slice (some ⟨g, 0, none⟩) 1 cap ∧ w4.ownsRow X.heap.size 9 1 (.slice (some ⟨g, 0, none⟩) 1 cap) 1 [.string ID] := hs 5 (by simp)
   rw [facv hs [25, 26, 27, 28, 29, 30, 31] (by kernel_rfl)]
   simp only [actG, Act.put, List.drop, List.length, g30, List.setIfInBounds_toArray, List.set_cons_zero, List.set_cons_succ]
   clear hs hn hne g30
   have k2 := at_b hb4 HX.out.2.1
   have k5 : w4.heap[w.heap.size + 1]? = some (.cells [.slice (some ⟨gm, 0, none⟩) 1 cm, .slice none 0 0, .slice (some ⟨gi, 0, none⟩) 1 ci, .slice none 0 0, .slice (some ⟨gc, 0, none⟩) 2 cc].toArray 139 (0, 0)) := at_b hb4 HX.out.2.2.1
   have c3 := ab_ k5 3 rfl; have f3 := ag_ k5 3
   have b4 := HX.out.1.trans (hb4.mono HX.out.1.size)
   have l45 := lt_of_block k5
   have ld := ah_ howd
   have lX5 := lt_of_block HX.out.2.2.1
   have H4 := h4_ b4 k2 k5 howd
   clear hb4 k2 k5 b4 howd HX
   go_upto_region 6 with fail
   refine ac_ fun Y hY => ?_
   have yo : Only (· = w.heap.size + 1) w4 Y := by rw [← hY]; exact (Only.refl (· = w.heap.size + 1) w4).setCell _ _ (.inl rfl)
   have y5 : Y.heap[w.heap.size + 1]? = some (.cells [.slice (some ⟨gm, 0, none⟩) 1 cm, .slice none 0 0, .slice (some ⟨gi, 0, none⟩) 1 ci, .slice (some ⟨gd, 0, none⟩) 1 cd, .slice (some ⟨gc, 0, none⟩) 2 cc].toArray 139 (0, 0)) := by rw [← hY]; exact aj_ H4.out.2.2.1 3 _
   have y2 := yo.kept H4.out.2.1 (by omega)
   have yd := ao_ H4.out.2.2.2 yo (by omega)
   have yB : Below w.heap.size w Y := ((Only.of_below_le H4.out.1 (fun k _ h => h) : Only (fun b => w.heap.size ≤ b) w w4).then yo (by intro k _ h; omega)).below (Nat.le_refl _) (fun k h => h)
   have hva : ViewAt B ID C S gm gi gd gc Y := ⟨bh_ HH.out.1 lm yB, bh_ HH.out.2.2.1 li yB, (row_cell yd 0 rfl).1, bh_ HH.out.2.1 lk yB, Nat.lt_of_lt_of_le lm yB.size, Nat.lt_of_lt_of_le li yB.size, (ah_ yd).2.1, Nat.lt_of_lt_of_le lk yB.size, HH.out.2.2.2.2.1.below yB⟩
   have ly5 := lt_of_block y5
   have d2 := al_ y2 2 rfl
   have HY := h4_ yB y2 y5 hva
   clear hY yo y5 y2 yd yB hva H4 c3 f3 ld
   go_wp2
   rw [rounds_succ]
   go_wp2_with fail
   refine wp_loop_rounds 2 ?_
   rw [rounds_succ]
   go_upto_region 11 with (first
    | (refine wpList_load_mid rfl 73 (.tmp 38) rfl th 0 rfl (dtC r 576) _ (bh_ HH.out.2.2.2.1 lt HY.out.1) Tryz.underlying73 rfl (dt_ln r 576) ?_)
    | ((with_reducible refine ad_ ?_); refine wpList_store_row rfl 73 _ _ rfl _ _ rfl rfl _ _ (heap_alloc_new _ _) (ig_ r 576) (by rw [q2_]; rfl) (vo_ r 576) ?_; (try simp only [World.setRow_alloc_new])))
   refine ac_ fun Z hZ => ?_
   have zB : Below Y.heap.size Y Z := by rw [← hZ]; go_grown
   have z10 : Z.heap[Y.heap.size]? = some (.cells (dtC r 576).toArray 73 (0, 0)) := by rw [← hZ]; exact heap_alloc_new _ _
   have z2 := at_b zB HY.out.2.1
   have z5 := at_b zB HY.out.2.2.1
   have bz := HY.out.1.trans (zB.mono HY.out.1.size)
   have HZ := h5_ bz z2 z5 z10 (HY.out.2.2.2.below zB)
   clear hZ zB z10 z2 z5 bz HY d2
   go_wp2_with (first
    | (refine wpList_load_row rfl 27 (.tmp 2) rfl w.heap.size rfl 27 #[.slice (some ⟨gm, 0, none⟩) 1 cm, .slice none 0 0, .slice (some ⟨th, 0, none⟩) 1 ch, .slice (some ⟨gc, 0, none⟩) 2 cc] (0, 0) _ HZ.out.2.1 Tryz.underlying27 rfl (by kernel_rfl) ?_)
    | (refine wpList_load_row rfl 139 (.tmp 5) rfl (w.heap.size + 1) rfl 139 #[.slice (some ⟨gm, 0, none⟩) 1 cm, .slice none 0 0, .slice (some ⟨gi, 0, none⟩) 1 ci, .slice (some ⟨gd, 0, none⟩) 1 cd, .slice (some ⟨gc, 0, none⟩) 2 cc] (0, 0) _ HZ.out.2.2.1 Tryz.underlying139 rfl (by kernel_rfl) ?_)
    | (refine wpList_load_row rfl 73 (.tmp 10) rfl Y.heap.size rfl 73 (dtC r 576).toArray (0, 0) _ HZ.out.2.2.2.1 Tryz.underlying73 rfl (ig_ r 576) ?_))
   go_at_call 43
   refine (si_ (some ⟨gm, 0, none⟩) 1 cm (some ⟨th, 0, none⟩) 1 ch gm cm gi ci gd cd gc cc B ID C S HS.out.1 HS.out.2.1 HS.out.2.2.1 HS.out.2.2.2.1 r HS.out.2.2.2.2 Z HZ.out.2.2.2.2).mono ?_
   rintro e u ⟨⟨gl, cl, rfl⟩, hbu⟩
   have bu := HZ.out.1.trans (hbu.mono HZ.out.1.size)
   have HU := h1_ bu
   clear hbu bu
   obtain ⟨j0, hj, hy0, hy1, hy2⟩ := info_parts q4_
   go_wp2_with (at_builtin; refine wpList_append_lies _ rfl _ _ _ rfl w.heap.size 63 j0 (.slice none 0 0) 1 24 Tryz.underlying61 hj hy0 hy1 hy2 rfl (by omega) _ 0 _ rfl (World.ownsRow_nil _ w.heap.size 63 1) ⟨u.heap.size, 0, none⟩ 1 1 [.slice (some ⟨gl, 0, none⟩) 2 cl] rfl rfl ?n1 ?n2 (by omega) ?n3 ?n4 ?n5 (u.heap.size + 1) (by simp) ?_)
   case n1 => exact World.news_of_block (cs := #[.slice (some ⟨gl, 0, none⟩) 2 cl]) (t := 63) (fr := (0, 0)) (heap_alloc_new u _)
   case n2 => simp [Value.oneCell']
   case n3 => unfold maxLen; omega
   case n4 => omega
   case n5 => have := HU.out.size; simp; omega
   intro g k z hown hgrow hat hlt
   have bz : Below w.heap.size w z := (HU.out.alloc HU.out.size _).grown hgrow (by have := HU.out.size; simp; omega) (fun q hq => by simp [Value.ownBlock] at hq)
   try simp only [Nat.zero_add, List.nil_append] at hown
   have HE := h2_ bz hown
   clear bz hown hgrow hat hlt
   go_wp2
   rw [rounds_succ]
   go_wp2
   go_ret
   exact ⟨⟨g, k, gl, cl, by simp, (row_cell HE.out.2 0 rfl).1, (ah_ HE.out.2).2.1⟩, HE.out.1⟩
end Two
namespace Two
open Go.RowKit
attribute [local go_sem] ak_ af_
attribute [local irreducible] aa_ modC cpuL thrG dtC
theorem ni_ (gm cm gc cc th ch : Nat) (ID : ByteArray) (r : Nat → Int) (hr : r 15 = 2032) (w : World)
 (hm : w.rangeAt gm 0 [.string labS, .string ID, .int .i64 512, .int .i64 256, .bool false]) (ht : w.rangeAt th 0 (dtC r 576))
 (lm : gm < w.heap.size) (lt : th < w.heap.size) :
 Calls Tryz.prog 13 #[.agg #[.slice (some ⟨gm, 0, none⟩) 1 cm, .slice none 0 0, .slice (some ⟨th, 0, none⟩) 1 ch, .slice (some ⟨gc, 0, none⟩) 2 cc], .slice none 0 0] w fun e w' => (∃ g k, e = .returned (.slice (some ⟨g, 0, none⟩) 1 k) ∧ w'.cell? ⟨g, 0, none⟩ = some (.slice none 0 0) ∧ g < w'.heap.size) ∧ Below w.heap.size w w' := by
 have HH := h2_ hm ht
 have HS := h1_ hr
 clear hm ht hr
 go_enter Tryz.func13, Tryz.ntmps13
 go_upto_region 2 with ((with_reducible refine ad_ ?_); refine wpList_store_row rfl 139 _ _ rfl _ _ rfl rfl _ _ (heap_alloc_new _ _) (by kernel_rfl) rfl (by simp [Value.oneCell']) ?_; (try simp only [World.setRow_alloc_new]))
 refine ac_ fun V hV => ?_
 have vB : Below w.heap.size w V := by rw [← hV]; go_grown
 have v2 : V.heap[w.heap.size]? = some (.cells #[.slice (some ⟨gm, 0, none⟩) 1 cm, .slice none 0 0, .slice (some ⟨th, 0, none⟩) 1 ch, .slice (some ⟨gc, 0, none⟩) 2 cc] 27 (0, 0)) := by rw [← hV]; exact ae_ (heap_alloc_new _ _)
 have v5 : V.heap[w.heap.size + 1]? = some (.cells #[.slice (some ⟨gm, 0, none⟩) 1 cm, .slice none 0 0, .slice none 0 0, .slice none 0 0, .slice (some ⟨gc, 0, none⟩) 2 cc] 139 (0, 0)) := by rw [← hV]; exact block_at (by simp)
 have lV := lt_of_block v5
 have d2 := al_ v2 2 rfl
 have HV := h3_ vB v2 v5
 clear hV vB v2 v5
 go_wp2_with fail
 refine wp_loop_rounds 1 ?_
 rw [rounds_succ]
 go_wp2_with fail
 refine wp_loop_rounds 2 ?_
 rw [rounds_succ]
 go_upto_region 11 with (first
  | (refine wpList_load_mid rfl 73 (.tmp 38) rfl th 0 rfl (dtC r 576) _ (bh_ HH.out.2 lt HV.out.1) Tryz.underlying73 rfl (dt_ln r 576) ?_)
  | ((with_reducible refine ad_ ?_); refine wpList_store_row rfl 73 _ _ rfl _ _ rfl rfl _ _ (heap_alloc_new _ _) (ig_ r 576) (by rw [q2_]; rfl) (vo_ r 576) ?_; (try simp only [World.setRow_alloc_new])))
 refine ac_ fun Z hZ => ?_
 have zB : Below V.heap.size V Z := by rw [← hZ]; go_grown
 have z10 : Z.heap[V.heap.size]? = some (.cells (dtC r 576).toArray 73 (0, 0)) := by rw [← hZ]; exact heap_alloc_new _ _
 have z2 := at_b zB HV.out.2.1
 have z5 := at_b zB HV.out.2.2
 have bz := HV.out.1.trans (zB.mono HV.out.1.size)
 have HZ := h4_ bz z2 z5 z10
 clear hZ zB z10 z2 z5 bz HV d2
 go_wp2_with (first
  | (refine wpList_load_row rfl 27 (.tmp 2) rfl w.heap.size rfl 27 #[.slice (some ⟨gm, 0, none⟩) 1 cm, .slice none 0 0, .slice (some ⟨th, 0, none⟩) 1 ch, .slice (some ⟨gc, 0, none⟩) 2 cc] (0, 0) _ HZ.out.2.1 Tryz.underlying27 rfl (by kernel_rfl) ?_)
  | (refine wpList_load_row rfl 139 (.tmp 5) rfl (w.heap.size + 1) rfl 139 #[.slice (some ⟨gm, 0, none⟩) 1 cm, .slice none 0 0, .slice none 0 0, .slice none 0 0, .slice (some ⟨gc, 0, none⟩) 2 cc] (0, 0) _ HZ.out.2.2.1 Tryz.underlying139 rfl (by kernel_rfl) ?_)
  | (refine wpList_load_row rfl 73 (.tmp 10) rfl V.heap.size rfl 73 (dtC r 576).toArray (0, 0) _ HZ.out.2.2.2 Tryz.underlying73 rfl (ig_ r 576) ?_))
 go_at_call 43
 refine (pd_ (some ⟨gm, 0, none⟩) 1 cm (some ⟨th, 0, none⟩) 1 ch gm cm gc cc ID r HS.out Z (bh_ HH.out.1 lm HZ.out.1) (Nat.lt_of_lt_of_le lm HZ.out.1.size)).mono ?_
 rintro e u ⟨rfl, hbu⟩
 have bu := HZ.out.1.trans (hbu.mono HZ.out.1.size)
 have HU := h1_ bu
 clear hbu bu
 obtain ⟨j0, hj, hy0, hy1, hy2⟩ := info_parts q4_
 go_wp2_with (at_builtin; refine wpList_append_lies _ rfl _ _ _ rfl w.heap.size 63 j0 (.slice none 0 0) 1 24 Tryz.underlying61 hj hy0 hy1 hy2 rfl (by omega) _ 0 _ rfl (World.ownsRow_nil _ w.heap.size 63 1) ⟨u.heap.size, 0, none⟩ 1 1 [.slice none 0 0] rfl rfl ?n1 ?n2 (by omega) ?n3 ?n4 ?n5 (u.heap.size + 1) (by simp) ?_)
 case n1 => exact World.news_of_block (cs := #[.slice none 0 0]) (t := 63) (fr := (0, 0)) (heap_alloc_new u _)
 case n2 => simp [Value.oneCell']
 case n3 => unfold maxLen; omega
 case n4 => omega
 case n5 => have := HU.out.size; simp; omega
 intro g k z hown hgrow hat hlt
 have bz : Below w.heap.size w z := (HU.out.alloc HU.out.size _).grown hgrow (by have := HU.out.size; simp; omega) (fun q hq => by simp [Value.ownBlock] at hq)
 try simp only [Nat.zero_add, List.nil_append] at hown
 have HE := h2_ bz hown
 clear bz hown hgrow hat hlt
 go_wp2
 rw [rounds_succ]
 go_wp2
 go_ret
 exact ⟨⟨g, k, by simp, (row_cell HE.out.2 0 rfl).1, (ah_ HE.out.2).2.1⟩, HE.out.1⟩
end Two
section
open Go.RowKit Wire
attribute [local go_sem] ak_ af_
theorem q5_ {n : Int} (h : I64 n) : (intL n).length ≤ 10 := b0_ (by have := qf_ h; simpa using this)
theorem fd_ : ∀ (l : List Int), (∀ n ∈ l, I64 n) → (l.flatMap intL).length ≤ 10 * l.length
 | [], _ => Nat.le_refl _
 | n :: l, h => by
  rw [List.flatMap_cons, List.length_append, List.length_cons]
  have := q5_ (h n (by simp))
  have := fd_ l (fun x hx => h x (List.mem_cons_of_mem _ hx))
  omega
theorem ez_ (a b : List UInt8) : (⟨a.toArray⟩ : ByteArray) ++ (⟨b.toArray⟩ : ByteArray) = ⟨(a ++ b).toArray⟩ := by
 apply ByteArray.ext
 simp
theorem nj_ (l : List Int) (g o cap : Nat) (hl : l.length ≤ 100) (hr : ∀ n ∈ l, I64 n) (w : World) (hc : w.rangeAt g o (l.map (Value.int .i64))) (hg : g < w.heap.size) :
 Calls Tryz.prog 17 #[.slice (some ⟨g, o, none⟩) l.length cap] w fun e w' => Below w.heap.size w w' ∧ e = .returned (strB (l.flatMap intL)) := by
 have HC := h2_ hr hc
 clear hr hc
 go_enter Tryz.func17, Tryz.ntmps17
 go_wp2_with fail
 go_loopw [3, 8] (fun s i wr => ∃ k : Nat, i = .int .i64 k ∧ k ≤ l.length ∧ s = strB ((l.take k).flatMap intL) ∧ Below w.heap.size w wr) (fun _ i _ => l.length - (RowKit.intOf i).toNat)
 case atStart => exact ⟨0, rfl, Nat.zero_le _, rfl, Below.refl _ _⟩
 case round =>
  obtain ⟨k, rfl, hk, rfl, hb⟩ := hrel
  have hlen := fd_ (l.take k) (fun n hn => HC.out.1 n (List.mem_of_mem_take hn))
  rw [List.length_take, Nat.min_eq_left hk] at hlen
  obtain ⟨P, hP⟩ : ∃ P, P = (l.take k).flatMap intL := ⟨_, rfl⟩
  rw [← hP] at hlen
  rw [← hP]
  have HP := h2_ hP hb
  clear hP hb
  by_cases hlt : k < l.length
  · obtain ⟨x, hx⟩ : ∃ x, x = l[k] := ⟨_, rfl⟩
    have hxr : I64 x := by rw [hx]; exact HC.out.1 _ (List.getElem_mem hlt)
    have c0 : wr.cell? ⟨g, o + k, none⟩ = some (.int .i64 x) := by
     rw [HP.out.2.cell (p := ⟨g, o + k, none⟩) hg]
     exact HC.out.2 k _ (by rw [List.getElem?_map, List.getElem?_eq_getElem hlt, hx]; rfl)
    have HX := h2_ hx hxr
    clear hx hxr
    go_wp2_with fail
    go_at_call 46
    refine (wint x HX.out.2 _).mono ?_
    rintro e w1 ⟨hb1, rfl⟩
    unfold strB
    have hxl := q5_ HX.out.2
    obtain ⟨A, hA⟩ : ∃ A, A = (⟨P.toArray⟩ : ByteArray) := ⟨_, rfl⟩
    obtain ⟨N, hN⟩ : ∃ N, N = (⟨(intL x).toArray⟩ : ByteArray) := ⟨_, rfl⟩
    have hsz : A.size = P.length := by rw [hA]; rfl
    have hnz : N.size = (intL x).length := by rw [hN]; rfl
    have hcat : ¬ 9223372036854775807 < A.size + N.size := by omega
    rw [← hA, ← hN]
    have HN := h3_ hA hN hb1
    clear hA hN hb1 hsz hnz hxl c0
    go_wp2
    go_roundw
    case rel =>
     obtain ⟨hA, hN, hb1⟩ := HN.out
     refine ⟨k + 1, rfl, by omega, ?_, HP.out.2.trans (hb1.mono HP.out.2.size)⟩
     rw [hA, hN, ez_, List.take_succ_eq_append_getElem hlt, List.flatMap_append, ← HP.out.1, ← HX.out.1]
     simp [strB]
    case measure => simp [RowKit.intOf]; omega
  · obtain rfl : k = l.length := by omega
    go_wp2
    go_ret
    refine ⟨HP.out.2, ?_⟩
    rw [HP.out.1, List.take_length]
    rfl
theorem dcpub (c : CpuD) (hl : c.length = 17) (hr : ∀ n ∈ c, I64 n) (w : World) :
 Calls Tryz.prog 18 #[.agg (c.map (Value.int .i64)).toArray] w fun e w' => Below w.heap.size w w' ∧ e = .returned (strB (Wire.cpuL c)) := by
 have hall : ∀ u ∈ c.map (Value.int .i64), u.oneCell' = true := by
  intro u hu
  obtain ⟨x, _, rfl⟩ := List.mem_map.1 hu
  rfl
 obtain ⟨L, hL⟩ : ∃ L, L = c.map (Value.int .i64) := ⟨_, rfl⟩
 have hll : L.length = 17 := by rw [hL, List.length_map, hl]
 have HL := h4_ hL hll hr hl
 rw [← hL] at hall ⊢
 clear hL hr hl
 go_enter Tryz.func18, Tryz.ntmps18
 go_upto_region 1 with fail
 refine ac_ fun X hX => ?_
 have xb : X.heap[w.heap.size]? = some (.cells L.toArray 70 (0, 0)) := by rw [← hX]; exact heap_alloc_new _ _
 have xB : Below w.heap.size w X := by rw [← hX]; go_grown
 have HX := h2_ xb xB
 clear xb xB hX
 obtain ⟨hL, hll', hr, hl⟩ := HL.out
 obtain ⟨pc, hpc⟩ : ∃ x, x = c[16]'(by omega) := ⟨_, rfl⟩
 obtain ⟨A, hA⟩ : ∃ A, A = (⟨((c.take 16).flatMap intL).toArray⟩ : ByteArray) := ⟨_, rfl⟩
 obtain ⟨B, hB⟩ : ∃ B, B = (⟨([pc].flatMap intL).toArray⟩ : ByteArray) := ⟨_, rfl⟩
 have hlen16 : (c.take 16).length = 16 := by rw [List.length_take, hl]; rfl
 have h16 : ∀ (q : Nat) (v : Value), ((c.take 16).map (Value.int .i64))[q]? = some v → L[q]? = some v := by
  intro q v hq
  rw [hL]
  rw [List.getElem?_map] at hq ⊢
  rw [List.getElem?_take] at hq
  split at hq
  · exact hq
  · cases hq
 have hp16 : L[16]? = some (.int .i64 pc) := by rw [hL, List.getElem?_map, List.getElem?_eq_getElem (by omega), hpc]; rfl
 have hpr : I64 pc := by rw [hpc]; exact hr _ (List.getElem_mem _)
 have hcat : ¬ 9223372036854775807 < A.size + B.size := by
  have a1 := fd_ (c.take 16) (fun n hn => hr n (List.mem_of_mem_take hn))
  have a2 := fd_ [pc] (fun n hn => by obtain rfl := List.mem_singleton.1 hn; exact hpr)
  have a3 : A.size = ((c.take 16).flatMap intL).length := by rw [hA]; rfl
  have a4 : B.size = ([pc].flatMap intL).length := by rw [hB]; rfl
  rw [hlen16] at a1
  simp at a2
  simp at a4
  omega
 have hspl : Wire.cpuL c = (c.take 16).flatMap intL ++ [pc].flatMap intL := by
  have e : c = c.take 16 ++ [pc] := by
   rw [hpc, ← List.take_succ_eq_append_getElem (by omega), List.take_of_length_le (by omega)]
  unfold Wire.cpuL
  conv => lhs; rw [e]
  rw [List.flatMap_append]
 have HP := h5_ hlen16 h16 hp16 hpr hspl
 have HA := h1_ hA
 have HB := h1_ hB
 clear hL hll' hr hl hpc hA hB hlen16 h16 hp16 hpr hspl
 refine wq_ 8 [] (fun _ => False) [.pt w.heap.size 0, .val (.slice (some ⟨w.heap.size, 0, none⟩) 16 16), .val (.string A), .pt w.heap.size 16, .val (.int .i64 pc), .more (fun v x => ∃ g, v = .slice (some ⟨g, 0, none⟩) 1 1 ∧ x.heap[g]? = some (.cells [.int .i64 pc].toArray 3 (0, 0))) (fun v x y ho h => by obtain ⟨g, h1, h2⟩ := h; exact ⟨g, h1, ho.kept h2 id⟩), .val (.string B), .val (.string (A ++ B))] (fun _ _ => True) (by kernel_rfl) (by kernel_rfl) (trivial) ?_ ?_
 · simp only [a4_, List.take]
   refine ⟨?_, ?_, ?_, ?_, ?_, ?_, ?_, ?_, trivial⟩
   all_goals intro k a wr ho hJ hk hr hf hd
   · have h1 : zp_ a 1 w.heap.size 0 := (hf 1).trans rfl
     exact dp_ hJ (by simp [execOp, h1, go_sem])
   · have h3 : z_ a 3 _ := hd 0
     exact dp_ hJ (by simp [execOp, h3, go_sem])
   · have h4 : z_ a 4 _ := hd 1
     refine a0_ (f := 17) (args := #[.slice (some ⟨w.heap.size, 0, none⟩) 16 16]) (by simp [execOp, h4, go_sem]) ?_
     have hd := nj_ (c.take 16) w.heap.size 0 16 (by rw [HP.out.1]; decide) (fun n hn => HL.out.2.2.1 n (List.mem_of_mem_take hn)) wr (fun q v hq => by rw [Nat.zero_add]; exact ab_ (ho.kept HX.out.1 id) q (HP.out.2.1 q v hq)) (by have := lt_of_block (ho.kept HX.out.1 id); exact this)
     rw [HP.out.1] at hd
     exact hd.mono fun e w' ⟨hb, he⟩ => ⟨_, he, by rw [HA.out]; rfl, Only.of_below hb, trivial⟩
   · have h1 : zp_ a 1 w.heap.size 0 := (hf 1).trans rfl
     exact dp_ hJ (by simp [execOp, h1, go_sem])
   · have h6 : z_ a 6 _ := hd 3
     have hc := ab_ (ho.kept HX.out.1 id) 16 HP.out.2.2.1
     exact dp_ hJ (by simp [execOp, h6, hc, go_sem])
   · have h7 : z_ a 7 _ := hd 4
     exact bc_ (v := .slice (some ⟨wr.heap.size, 0, none⟩) 1 1) (w' := wr.alloc (.cells [.int .i64 pc].toArray 3)) (by simp [execOp, h7, go_sem]) ⟨⟨_, rfl, heap_alloc_new _ _⟩, (Only.refl _ _).alloc _, trivial⟩
   · have h8 := hd 5
     obtain ⟨g, h8', hg⟩ : ∃ g, a.tmps[(8 : Nat)]?.getD undef = .slice (some ⟨g, 0, none⟩) 1 1 ∧ wr.heap[g]? = some (.cells [.int .i64 pc].toArray 3 (0, 0)) := h8
     refine a0_ (f := 17) (args := #[.slice (some ⟨g, 0, none⟩) 1 1]) (by simp [execOp, h8', go_sem]) ?_
     have hd := nj_ [pc] g 0 1 (by simp) (fun n hn => by obtain rfl := List.mem_singleton.1 hn; exact HP.out.2.2.2.1) wr (fun q v hq => by rw [Nat.zero_add]; exact ab_ hg q hq) (lt_of_block hg)
     exact hd.mono fun e w' ⟨hb, he⟩ => ⟨_, he, by rw [HB.out]; rfl, Only.of_below hb, trivial⟩
   · have h5 : z_ a 5 _ := hd 2
     have h9 : z_ a 9 _ := hd 6
     exact dp_ hJ (by simp [execOp, h5, h9, go_sem, hcat])
 · intro fv w2 ho2 hj hs
   have q8 := hs 5 (by decide)
   rw [seqv hs [3, 4, 5, 6, 7, 8, 9, 10] (by kernel_rfl)]
   simp only [actV, Act.put, List.drop, List.length, List.setIfInBounds_toArray, List.set_cons_zero, List.set_cons_succ]
   clear hs
   clear q8
   go_wp2
   go_ret
   refine ⟨((Only.of_below_le HX.out.2 (fun _ _ h => h) : Only (fun b => w.heap.size ≤ b) w X).then ho2 (fun _ _ h => h.elim)).below (Nat.le_refl _) (fun _ h => h), ?_⟩
   rw [HA.out, HB.out, ez_, HP.out.2.2.2.2]
   rfl
end
end Go.Proofs.YtacaejpamidkcaaGreatDoor
