/- dump: Take of the example's process. locate: the example has no nodes in its debug information. -/
import Derived.Test.YtacaejpamidkcaaGreatDoorR42
set_option linter.unusedVariables false
set_option linter.unusedSimpArgs false
set_option maxRecDepth 100000
set_option maxHeartbeats 4000000
namespace Go.Proofs.YtacaejpamidkcaaGreatDoor
namespace Two
open Go.RowKit
attribute [local go_sem] ak_ af_
theorem vm_ (r : Nat → Int) (pc : Int) (c c' : Value) : (thrG r pc c).set 21 c' = thrG r pc c' := by unfold thrG cpuL; rfl
theorem l5_ (r : Nat → Int) (pc : Int) (c : Value) : (thrG r pc c).length = 23 := by unfold thrG cpuL; rfl
theorem q1_ (r : Nat → Int) (pc : Int) (A : Option Addr) (n m : Nat) : ∀ u ∈ thrG r pc (.slice A n m), u.oneCell' = true := by unfold thrG cpuL; simp [Value.oneCell']
theorem thr_18 (r : Nat → Int) (pc : Int) (calls : Value) : (thrG r pc calls)[(18 : Nat)]? = some (.int .i64 0) := by unfold thrG cpuL; rfl
theorem thr_19 (r : Nat → Int) (pc : Int) (calls : Value) : (thrG r pc calls)[(19 : Nat)]? = some (.int .i64 1024) := by unfold thrG cpuL; rfl
theorem thr_20 (r : Nat → Int) (pc : Int) (calls : Value) : (thrG r pc calls)[(20 : Nat)]? = some (.int .i64 1024) := by unfold thrG cpuL; rfl
def dtC (r : Nat → Int) (pc : Int) : List Value := cpuL r pc ++ [.int .i64 0, .int .i64 0, .int .i64 1024, .int .i64 1024, .slice none 0 0]
theorem dt_len (r : Nat → Int) (pc : Int) : (dtC r pc).length = 22 := by unfold dtC cpuL; rfl
theorem q2_ (r : Nat → Int) (pc : Int) : (dtC r pc).toArray.size = 22 := by unfold dtC cpuL; rfl
theorem ig_ (r : Nat → Int) (pc : Int) : (Tryz.prog.info? 73).map (·.size) = some (dtC r pc).toArray.size := by rw [q2_]; kernel_rfl
theorem dt_ln (r : Nat → Int) (pc : Int) : (Tryz.prog.info? 73).map (·.size) = some (dtC r pc).length := by rw [dt_len]; kernel_rfl
theorem vn_ (r : Nat → Int) (pc : Int) : ∀ u ∈ dtC r pc, u.oneCell' = true := by unfold dtC cpuL; simp [Value.oneCell']
theorem vo_ (r : Nat → Int) (pc : Int) : (dtC r pc).toArray.all (·.oneCell') = true := by simpa using vn_ r pc
theorem dt_cpu {r : Nat → Int} {pc : Int} {j : Nat} {u : Value} (h : (cpuL r pc)[j]? = some u) : (dtC r pc)[j]? = some u := by
 unfold dtC
 rw [List.getElem?_append_left (List.getElem?_eq_some_iff.1 h).1]
 exact h
theorem dt_17 (r : Nat → Int) (pc : Int) : (dtC r pc)[(17 : Nat)]? = some (.int .i64 0) := by unfold dtC cpuL; rfl
theorem dt_21 (r : Nat → Int) (pc : Int) : (dtC r pc)[(21 : Nat)]? = some (.slice none 0 0) := by unfold dtC cpuL; rfl
theorem xs_ (t1 t2 t3 t4 : Tmp) (r : Nat → Int) (pc : Int) (o : Oper) (a : Act) (w : World) (ho : o.op = .build 73 #[(0, .tmp t1), (1, .tmp t2), (2, .tmp t3), (3, .tmp t4)])
 (h1 : a.tmps[t1]?.getD undef = .agg (cpuL r pc).toArray) (h2 : a.tmps[t2]?.getD undef = .int .i64 0) (h3 : a.tmps[t3]?.getD undef = .int .i64 0) (h4 : a.tmps[t4]?.getD undef = .agg #[.int .i64 1024, .int .i64 1024]) : (execOp a.eval o).run Tryz.prog w = .ok (.value (.agg (dtC r pc).toArray)) w := by
 unfold cpuL at h1
 unfold dtC cpuL
 simp [execOp, ho, h1, h2, h3, h4, go_sem]
theorem l6_ (t : Tmp) (r : Nat → Int) (pc : Int) (o : Oper) (a : Act) (w : World) (ho : o.op = .buildSlice 24 1 #[(0, .tmp t)]) (ht : a.tmps[t]?.getD undef = .agg (dtC r pc).toArray) :
 (execOp a.eval o).run Tryz.prog w = .ok (.value (sl 1 w.heap.size)) (w.alloc (.cells (dtC r pc).toArray 73)) := by
 unfold dtC cpuL at *
 unfold sl
 simp [execOp, ho, ht, go_sem]
def zDt : Value := .agg #[.int .i64 0, .int .i64 0, .int .i64 0, .int .i64 0, .int .i64 0, .int .i64 0, .int .i64 0, .int .i64 0, .int .i64 0, .int .i64 0, .int .i64 0, .int .i64 0, .int .i64 0, .int .i64 0, .int .i64 0, .int .i64 0, .int .i64 0, .int .i64 0, .int .i64 0, .int .i64 0, .int .i64 0, .slice none 0 0]
theorem xt_ : (Tryz.prog.info? 73).map (fun i => (i.zero, i.size, i.bytes)) = some (some zDt, 22, 192) := by kernel_rfl
theorem vp_ : zDt.cells.size = 22 := by unfold zDt; rfl
theorem ViewAt.only {B : IB} {ID : ByteArray} {C S : List UInt8} {gm gi gd gc : Nat} {T : Nat → Prop} {w w' : World} (h : ViewAt B ID C S gm gi gd gc w) (ho : Only T w w') (n1 : ¬ T gm) (n2 : ¬ T gi) (n3 : ¬ T gd) (n4 : ¬ T gc) (n5 : ¬ T B.gd) : ViewAt B ID C S gm gi gd gc w' where
 mods := fun j u hj => (ho.cell h.lm n1).trans (h.mods j u hj)
 imgs := fun j u hj => (ho.cell h.li n2).trans (h.imgs j u hj)
 ids := (ho.cell h.ld n3).trans h.ids
 mem := fun j u hj => (ho.cell h.lc n4).trans (h.mem j u hj)
 lm := Nat.lt_of_lt_of_le h.lm ho.size
 li := Nat.lt_of_lt_of_le h.li ho.size
 ld := Nat.lt_of_lt_of_le h.ld ho.size
 lc := Nat.lt_of_lt_of_le h.lc ho.size
 dep := ho.kept h.dep n5
attribute [local irreducible] aa_ modC cpuL thrG dtC
theorem vtake (t : Nat → Nat) (c : Nat → Int) (p s b l gt ct gp cap b1 b2 gz st gm cm s' b' : Nat) (D : List UInt8) (hD : D.length = 1024) (r : Nat → Int) (pc : Int) (A : Option Addr) (cA : Nat) (ord : Value) (B : IB) (hBs : B.bytes.size ≤ 1000000) (w : World) (h : RunAt p s b l gt ct gp cap b1 b2 gz D r pc (.slice A 0 cA) w)
 (hl : w.heap[l]? = some (.cells (bj_ s' b' st (.slice (some ⟨gm, 0, none⟩) 1 cm) ord).toArray 167 (0, 0)))
 (hm : w.ownsRow 0 127 32 (.slice (some ⟨gm, 0, none⟩) 1 cm) 1 (modC B 512 1)) (hd : a5_ w B.gd) (hT : Tabs t c w) :
 Calls Tryz.prog 12 #[.pointer (some ⟨p, 0, none⟩)] w fun e w' => ∃ am ac ai ad ak ack th ch, e = .returned (.agg #[.slice (some ⟨am, 0, none⟩) 1 ac, .slice none 0 0, .slice (some ⟨th, 0, none⟩) 1 ch, .slice (some ⟨ak, 0, none⟩) 2 ack]) ∧
  ViewAt B ⟨(Dig.sumL t c (imgL B)).toArray⟩ twoL D am ai ad ak w' ∧ w'.ownsRow w.heap.size 73 22 (.slice (some ⟨th, 0, none⟩) 1 ch) 1 (dtC r pc) ∧ Below w.heap.size w w' := by
 have HH := h5_ h hl hm hd hT
 have HB := h2_ hBs hD
 have lp := lt_of_block h.head
 clear h hl hm hd hT hBs hD
 go_enter Tryz.func12, Tryz.ntmps12
 go_upto_region 1 with fail
 refine ac_ fun V hV => ?_
 have vB : Below w.heap.size w V := by rw [← hV]; go_grown
 have v2 : V.heap[w.heap.size]? = some (.cells #[.slice none 0 0, .slice none 0 0, .slice none 0 0, .slice none 0 0] 27 (0, 0)) := by rw [← hV]; exact heap_alloc_new _ _
 have HV := h2_ vB v2
 have lV := lt_of_block v2
 clear hV vB v2
 have hrun : ∀ W, Below w.heap.size w W → RunAt p s b l gt ct gp cap b1 b2 gz D r pc (.slice A 0 cA) W := fun W hb => ⟨(hb.block _ lp).trans HH.out.1.head, ai_ HH.out.1.thread hb, HH.out.1.space.below hb, at_b hb HH.out.1.order, HH.out.1.forms.below hb⟩
 have HRUN := h1_ hrun
 clear hrun
 go_wp2_with fail
 go_at_call 40
 refine (vof t c p s b l gt ct gp cap b1 b2 gz st gm cm s' b' D HB.out.2 r pc (.slice A 0 cA) ord B HB.out.1 V (HRUN.out V HV.out.1) (at_b HV.out.1 HH.out.2.1) (ai_ HH.out.2.2.1 HV.out.1) (HH.out.2.2.2.1.below HV.out.1) (HH.out.2.2.2.2.below HV.out.1)).mono ?_
 rintro e w1 ⟨am, ac, ai, aci, ad, acd, ak, ack, rfl, hva, hlo, hb1⟩
 have HLO := h1_ hlo
 have HLT := h4_ hva.lm hva.li hva.ld hva.lc
 clear hlo
 unfold gg_
 have k2 := at_b hb1 HV.out.2
 have B1 := HV.out.1.trans (hb1.mono HV.out.1.size)
 have l1 := lt_of_block k2
 have H1 := h3_ B1 k2 hva
 clear hb1 k2 hva B1
 go_upto_region 3 with ((with_reducible refine ad_ ?_); first
  | (refine wpList_store_row rfl 139 _ _ rfl _ _ rfl rfl _ _ (heap_alloc_new _ _) (by kernel_rfl) rfl (by simp [Value.oneCell']) ?_; (try simp only [World.setRow_alloc_new]))
  | (refine wpList_store_row rfl 27 _ _ rfl _ _ rfl rfl _ _ (heap_alloc_new _ _) (by kernel_rfl) rfl (by simp [Value.oneCell']) ?_; (try simp only [World.setRow_alloc_new])))
 refine ac_ fun X hX => ?_
 have xB : Below w1.heap.size w1 X := by rw [← hX]; go_grown
 have x4 : X.heap[w1.heap.size + 1]? = some (.cells [.slice (some ⟨am, 0, none⟩) 1 ac, .slice none 0 0, .slice none 0 0, .slice (some ⟨ak, 0, none⟩) 2 ack].toArray 27 (0, 0)) := by rw [← hX]; exact block_at (by simp)
 have k2 := at_b xB H1.out.2.1
 have B2 := H1.out.1.trans (xB.mono H1.out.1.size)
 have l4 := lt_of_block x4
 have HX := h4_ B2 k2 x4 (H1.out.2.2.below xB)
 clear hX xB x4 k2 B2 H1
 go_wp2_with fail
 go_at_call 41
 refine (wx_ p s b l gt ct (thrG r pc (.slice A 0 cA)) (l5_ _ _ _) (q1_ _ _ _ _ _) A cA (u0_ _ _ _) (qx_ _ _ _) X (HRUN.out X HX.out.1).head (HRUN.out X HX.out.1).thread).mono ?_
 rintro e w2 ⟨⟨gq, cq, A', c', rfl, hown⟩, hb2⟩
 rw [vm_] at hown
 have k2 := at_b hb2 HX.out.2.1
 have k4 := at_b hb2 HX.out.2.2.1
 have B2 := HX.out.1.trans (hb2.mono HX.out.1.size)
 have l4 := lt_of_block k4
 have H2 := h5_ B2 k2 k4 (HX.out.2.2.2.below hb2) hown
 clear hb2 k2 k4 B2 hown HX
 go_wp2_with fail
 refine wp_loop_rounds 2 ?_
 rw [rounds_succ]
 go_upto_region 6 with (first
  | (refine wpList_load_mid rfl 133 (.tmp 24) rfl gq 0 rfl (thrG r pc (.slice A' 0 c')) _ (row_range H2.out.2.2.2.2) Tryz.underlying133 rfl (k0_ _ (l5_ _ _ _)) ?_)
  | ((with_reducible refine ad_ ?_); refine wpList_store_row rfl 133 _ _ rfl _ _ rfl rfl _ _ (heap_alloc_new _ _) (eg_ _ (l5_ _ _ _)) (by rw [qe_ _ (l5_ _ _ _)]; rfl) (g0_ _ (q1_ _ _ _ _ _)) ?_; (try simp only [World.setRow_alloc_new])))
 refine ac_ fun Y hY => ?_
 have yB : Below w2.heap.size w2 Y := by rw [← hY]; go_grown
 have y6 : Y.heap[w2.heap.size]? = some (.cells (thrG r pc (.slice A' 0 c')).toArray 133 (0, 0)) := by rw [← hY]; exact heap_alloc_new _ _
 have d17 := ab_ y6 17 (uz_ _ _ _); have d18 := ab_ y6 18 (thr_18 _ _ _); have d22 := ab_ y6 22 (qx_ _ _ _); have d19 := ab_ y6 19 (thr_19 _ _ _); have d20 := ab_ y6 20 (thr_20 _ _ _)
 have k2 := at_b yB H2.out.2.1
 have k4 := at_b yB H2.out.2.2.1
 have B3 := H2.out.1.trans (yB.mono H2.out.1.size)
 have l6 := lt_of_block y6
 have lk4 := lt_of_block k4
 have HY := h5_ B3 k2 k4 (H2.out.2.2.2.1.below yB) y6
 clear hY yB y6 k2 k4 B3 H2
 go_upto_region 7 with (first
  | (refine wpList_load_mid rfl 70 (.tmp 26) rfl w2.heap.size 0 rfl (cpuL r pc) _ (fun j u hj => by rw [Nat.zero_add]; exact ab_ HY.out.2.2.2.2 j (j4_ hj)) Tryz.underlying70 rfl (cpu_len r pc) ?_)
  | (refine wpList_load_mid rfl 67 (.tmp 32) rfl w2.heap.size 19 rfl [.int .i64 1024, .int .i64 1024] _ (fun j u hj => by
      have : j < 2 := (List.getElem?_eq_some_iff.1 hj).1
      match j, this with
      | 0, _ => exact (ab_ HY.out.2.2.2.2 19 (thr_19 _ _ _)).trans hj
      | 1, _ => exact (ab_ HY.out.2.2.2.2 20 (thr_20 _ _ _)).trans hj) Tryz.underlying67 rfl (by kernel_rfl) ?_)
  | (refine cf_ rfl (xs_ 27 29 31 33 r pc _ _ _ rfl rfl rfl rfl rfl) ?_)
  | ((with_reducible refine ad_ ?_); refine wpList_store_row rfl 73 _ _ rfl _ _ rfl rfl _ _ (heap_alloc_new _ _) (ig_ r pc) (by rw [q2_]; rfl) (vo_ r pc) ?_; (try simp only [World.setRow_alloc_new])))
 refine ac_ fun Z hZ => ?_
 have zB : Below Y.heap.size Y Z := by rw [← hZ]; go_grown
 have z7 : Z.heap[Y.heap.size]? = some (.cells (dtC r pc).toArray 73 (0, 0)) := by rw [← hZ]; exact heap_alloc_new _ _
 have z6 := at_b zB HY.out.2.2.2.2
 have d22 := ab_ z6 22 (qx_ _ _ _)
 have k2 := at_b zB HY.out.2.1
 have k4 := at_b zB HY.out.2.2.1
 have c2 := ab_ k4 2 rfl
 have B4 := HY.out.1.trans (zB.mono HY.out.1.size)
 have lz7 := lt_of_block z7
 have lz6 := lt_of_block z6
 have lk4 := lt_of_block k4
 have HZ := h5_ B4 k2 k4 (HY.out.2.2.2.1.below zB) z7
 clear hZ zB z7 z6 k2 k4 B4 HY d17 d18 d19 d20
 obtain ⟨j0, hj, hy0, hy1, hy2⟩ := info_parts xt_
 go_wp2_with fail
 refine wp_loop_rounds 1 ?_
 rw [rounds_succ]
 go_wp2_with (first
  | (refine wpList_load_row rfl 73 (.tmp 7) rfl Y.heap.size rfl 73 (dtC r pc).toArray (0, 0) _ HZ.out.2.2.2.2 Tryz.underlying73 rfl (ig_ r pc) ?_)
  | (refine cf_ rfl (l6_ 52 r pc _ _ _ rfl rfl) ?_)
  | (at_builtin; refine wpList_append_lies _ rfl _ _ _ rfl w.heap.size 73 j0 zDt 22 192 Tryz.underlying24 hj hy0 hy1 hy2 vp_ (by omega) _ 0 _ rfl (World.ownsRow_nil _ w.heap.size 73 22) ⟨Z.heap.size, 0, none⟩ 1 1 (dtC r pc) rfl (by rw [dt_len]) ?n1 (vn_ r pc) (by omega) ?n3 ?n4 ?n5 (Z.heap.size + 1) (by simp) ?_))
 case n1 => exact World.news_of_block (cs := (dtC r pc).toArray) (t := 73) (fr := (0, 0)) (heap_alloc_new Z _)
 case n3 => unfold maxLen; omega
 case n4 => omega
 case n5 => have := HZ.out.1.size; simp; omega
 intro th ch y hown hgrow hat hlt
 have yB : Below Z.heap.size Z y := ((Below.refl _ _).alloc (Nat.le_refl _) _).grown hgrow (by simp) (fun q hq => by simp [Value.ownBlock] at hq)
 have k2 := at_b yB HZ.out.2.1
 have k4 := at_b yB HZ.out.2.2.1
 have c2 := ab_ k4 2 rfl; have f2 := ag_ k4 2
 have B5 := HZ.out.1.trans (yB.mono HZ.out.1.size)
 have ly4 := lt_of_block k4
 have lZ := yB.size
 have hth : th ≠ w1.heap.size + 1 ∧ th ≠ w.heap.size := by
  rcases hat with h | h
  · simp [Value.ownBlock] at h
  · have := lt_of_block HZ.out.2.2.1; omega
 try simp only [Nat.zero_add, List.nil_append] at hown
 have Hy := h5_ B5 k2 k4 (HZ.out.2.2.2.1.below yB) hown
 clear yB k2 k4 B5 hown hgrow hat hlt HZ d22
 go_upto_region 13 with fail
 refine ac_ fun U hU => ?_
 have uo : Only (· = w1.heap.size + 1) y U := by rw [← hU]; exact (Only.refl (· = w1.heap.size + 1) y).setCell _ _ (.inl rfl)
 have u4 : U.heap[w1.heap.size + 1]? = some (.cells [.slice (some ⟨am, 0, none⟩) 1 ac, .slice none 0 0, .slice (some ⟨th, 0, none⟩) 1 ch, .slice (some ⟨ak, 0, none⟩) 2 ack].toArray 27 (0, 0)) := by rw [← hU]; exact aj_ Hy.out.2.2.1 2 _
 have HU := h2_ uo u4
 have lu4 := lt_of_block u4
 have l0w : w.heap.size < w1.heap.size := l1
 have u2 := uo.kept Hy.out.2.1 (by omega)
 have H2 := h1_ u2
 have lu2 := lt_of_block u2
 clear hU uo u4 c2 f2 u2
 go_wp2
 rw [rounds_succ]
 go_wp2_with (first
  | (refine wpList_load_row rfl 27 (.tmp 4) rfl (w1.heap.size + 1) rfl 27 #[.slice (some ⟨am, 0, none⟩) 1 ac, .slice none 0 0, .slice (some ⟨th, 0, none⟩) 1 ch, .slice (some ⟨ak, 0, none⟩) 2 ack] (0, 0) _ HU.out.2 Tryz.underlying27 rfl (by kernel_rfl) ?_)
  | ((with_reducible refine ad_ ?_); refine wpList_store_row rfl 27 _ _ rfl _ _ rfl rfl _ _ H2.out (by kernel_rfl) rfl (by simp [Value.oneCell']) ?_))
 have o1 : Only (· = w.heap.size) U (U.setRow w.heap.size #[.slice (some ⟨am, 0, none⟩) 1 ac, .slice none 0 0, .slice (some ⟨th, 0, none⟩) 1 ch, .slice (some ⟨ak, 0, none⟩) 2 ack]) := (Only.refl (· = w.heap.size) U).setRow _ _ (.inl rfl)
 refine bodyPost_ret (da_ rfl _ _ w.heap.size 27 #[.slice (some ⟨am, 0, none⟩) 1 ac, .slice none 0 0, .slice (some ⟨th, 0, none⟩) 1 ch, .slice (some ⟨ak, 0, none⟩) 2 ack] (0, 0) _ rfl (setRow_heap _ _ _ _ _ _ H2.out) Tryz.underlying27 rfl (by kernel_rfl)) rfl ?_
 obtain ⟨B5, k2, k4, hva, hown⟩ := Hy.out
 have oo : Only (fun x => x = w1.heap.size + 1 ∨ x = w.heap.size) y (U.setRow w.heap.size #[.slice (some ⟨am, 0, none⟩) 1 ac, .slice none 0 0, .slice (some ⟨th, 0, none⟩) 1 ch, .slice (some ⟨ak, 0, none⟩) 2 ack]) := (HU.out.1.mono (fun k _ h => .inl h)).trans (o1.mono (fun k _ h => .inr h))
 have zt := ao_ hown oo (by omega)
 have zB : Below w.heap.size w (U.setRow w.heap.size #[.slice (some ⟨am, 0, none⟩) 1 ac, .slice none 0 0, .slice (some ⟨th, 0, none⟩) 1 ch, .slice (some ⟨ak, 0, none⟩) 2 ack]) := ((Only.of_below_le B5 (fun k _ h => h) : Only (fun b => w.heap.size ≤ b) w y).then oo (by intro k _ h; omega)).below (Nat.le_refl _) (fun k h => h)
 have hlo := HLO.out
 have hlt := HLT.out
 have hvz : ViewAt B ⟨(Dig.sumL t c (imgL B)).toArray⟩ twoL D am ai ad ak (U.setRow w.heap.size #[.slice (some ⟨am, 0, none⟩) 1 ac, .slice none 0 0, .slice (some ⟨th, 0, none⟩) 1 ch, .slice (some ⟨ak, 0, none⟩) 2 ack]) :=
  hva.only oo (by omega) (by omega) (by omega) (by omega) (by have := lt_of_block HH.out.2.2.2.1; have := HV.out.1.size; omega)
 exact ⟨am, ac, ai, ad, ak, ack, th, ch, rfl, hvz, zt, zB⟩
end Two
namespace Two
open Go.RowKit
attribute [local go_sem] ak_ af_
attribute [local irreducible] aa_
attribute [local go_sem] dy_ d4_ ds_ eb_ d5_ d6_ ec_ ed_ ee_ ef_ db_ dc_ dd_ de_ df_ dg_ c1_ c2_ c3_ dh_ di_ c4_ dj_ dk_ dl_ dm_
theorem pc_ (f : Value) (w : World) : Calls Tryz.prog 325 #[.slice none 0 0, f] w fun e w' => e = .returned (.int .i64 (-1)) ∧ w' = w := by
 go_enter Tryz.func325, Tryz.ntmps325
 go_wp2
 refine wp_loop_rounds 2 ?_
 rw [rounds_succ]
 go_wp2
 go_ret
 exact ⟨rfl, rfl⟩
theorem lnode (B : IB) (x : Int) (w : World) : Calls Tryz.prog 186 #[.agg (aa_ B), .int .i64 x] w fun e w' => e = .returned (.tuple #[.agg #[.int .i64 0, .int .i64 0], .bool false]) ∧ Below w.heap.size w w' := by
 go_enter Tryz.func186, Tryz.ntmps186
 go_upto_region 1 with fail
 refine ac_ fun V hV => ?_
 have vB : Below w.heap.size w V := by rw [← hV]; go_grown
 have v2 : V.heap[w.heap.size]? = some (.cells (aa_ B) 52 (0, 0)) := by rw [← hV]; exact ae_ (ae_ (heap_alloc_new _ _))
 have v4 : V.heap[w.heap.size + 1 + 1]? = some (.cells #[.int .i64 0, .int .i64 0] 67 (0, 0)) := by rw [← hV]; exact block_at (by simp)
 have lV := lt_of_block v4
 have c21 := al_ v2 21 (c4_ B)
 have HV := h2_ vB v4
 clear hV vB v2 v4
 go_wp2_with (first
  | (go_at_call 325; refine (pc_ _ _).mono ?_; rintro e wz ⟨rfl, hwz⟩; rw [hwz]; clear hwz wz)
  | ((with_reducible refine ad_ ?_); refine wpList_store_row rfl 67 _ _ rfl _ _ rfl rfl _ _ HV.out.2 (by kernel_rfl) (by rfl) (by simp [Value.oneCell']) ?_))
 obtain ⟨e4, hb⟩ := ha_ (cs := #[.int .i64 0, .int .i64 0]) HV.out.1 HV.out.2 (by omega) (Nat.le_refl _)
 exact bodyPost_ret (a3_ rfl _ _ (w.heap.size + 1 + 1) _ _ _ _ rfl e4 Tryz.underlying67 rfl (by kernel_rfl)) rfl ⟨rfl, hb⟩
def zSpot : Array Value := #[.string ⟨#[]⟩, .int .i64 0, .string ⟨#[]⟩, .int .i64 0, .slice none 0 0]
theorem lat (B : IB) (x : Int) (w : World) : Calls Tryz.prog 91 #[.agg (aa_ B), .int .i64 x] w fun e w' => e = .returned (.tuple #[.agg zSpot, .bool false]) ∧ Below w.heap.size w w' := by
 go_enter Tryz.func91, Tryz.ntmps91
 go_upto_region 1 with fail
 refine ac_ fun V hV => ?_
 have vB : Below w.heap.size w V := by rw [← hV]; go_grown
 have v2 : V.heap[w.heap.size]? = some (.cells (aa_ B) 52 (0, 0)) := by rw [← hV]; exact ae_ (ae_ (heap_alloc_new _ _))
 have v3 : V.heap[w.heap.size + 1]? = some (.cells #[.int .i64 x] 3 (0, 0)) := by rw [← hV]; exact ae_ (block_at (by simp))
 have v4 : V.heap[w.heap.size + 1 + 1]? = some (.cells zSpot 199 (0, 0)) := by rw [← hV]; exact block_at (by simp)
 have lV := lt_of_block v4
 have c3 := al_ v3 0 rfl
 have HV := h3_ vB v2 v4
 clear hV vB v2 v3 v4
 go_wp2_with (refine wpList_load_row rfl 52 (.tmp 2) rfl w.heap.size rfl 52 (aa_ B) (0, 0) _ HV.out.2.1 Tryz.underlying52 rfl (au_ B) ?_)
 go_at_call 186
 refine (lnode B x _).mono ?_
 rintro e w1 ⟨rfl, hb1⟩
 have k4 := at_b hb1 HV.out.2.2
 have lk4 := lt_of_block k4
 have H1 := h2_ (HV.out.1.trans (hb1.mono HV.out.1.size)) k4
 clear hb1 k4 c3
 go_upto_region 2 with ((with_reducible refine ad_ ?_); refine sr_ rfl rfl (h := ?_); (try simp only [World.setRow_alloc_new]))
 refine ac_ fun X hX => ?_
 have xB : Below w1.heap.size w1 X := by rw [← hX]; go_grown
 have k4 := at_b xB H1.out.2
 have lk4 := lt_of_block k4
 have HX := h2_ (H1.out.1.trans (xB.mono H1.out.1.size)) k4
 clear hX xB k4 H1
 go_wp2_with ((with_reducible refine ad_ ?_); refine wpList_store_row rfl 199 _ _ rfl _ _ rfl rfl _ _ HX.out.2 (by kernel_rfl) (by rfl) (by simp [Value.oneCell']) ?_)
 obtain ⟨e4, hb⟩ := ha_ (cs := zSpot) HX.out.1 HX.out.2 (by omega) (Nat.le_refl _)
 exact bodyPost_ret (a3_ rfl _ _ (w.heap.size + 1 + 1) _ _ _ _ rfl e4 Tryz.underlying199 rfl (by kernel_rfl)) rfl ⟨rfl, hb⟩
theorem lvars (B : IB) (x : Int) (w : World) : Calls Tryz.prog 92 #[.agg (aa_ B), .int .i64 x] w fun e w' => e = .returned (.slice none 0 0) ∧ Below w.heap.size w w' := by
 go_enter Tryz.func92, Tryz.ntmps92
 go_upto_region 1 with fail
 refine ac_ fun V hV => ?_
 have vB : Below w.heap.size w V := by rw [← hV]; go_grown
 have v2 : V.heap[w.heap.size]? = some (.cells (aa_ B) 52 (0, 0)) := by rw [← hV]; exact ae_ (heap_alloc_new _ _)
 have v3 : V.heap[w.heap.size + 1]? = some (.cells #[.int .i64 x] 3 (0, 0)) := by rw [← hV]; exact block_at (by simp)
 have lV := lt_of_block v3
 have c3 := al_ v3 0 rfl
 have HV := h2_ vB v2
 clear hV vB v2 v3
 go_wp2_with (refine wpList_load_row rfl 52 (.tmp 2) rfl w.heap.size rfl 52 (aa_ B) (0, 0) _ HV.out.2 Tryz.underlying52 rfl (au_ B) ?_)
 go_at_call 186
 refine (lnode B x _).mono ?_
 rintro e w1 ⟨rfl, hb1⟩
 have H1 := h1_ (HV.out.1.trans (hb1.mono HV.out.1.size))
 clear hb1 c3
 go_wp2_with ((with_reducible refine ad_ ?_); refine sr_ rfl rfl (h := ?_); (try simp only [World.setRow_alloc_new]))
 go_ret
 exact ⟨rfl, H1.out.trans (((Below.refl w1.heap.size w1).alloc (Nat.le_refl _) _).mono H1.out.size)⟩
end Two
end Go.Proofs.YtacaejpamidkcaaGreatDoor
