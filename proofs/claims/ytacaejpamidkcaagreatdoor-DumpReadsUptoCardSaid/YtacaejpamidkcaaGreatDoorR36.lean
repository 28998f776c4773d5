/- frame: what a view of the example gives for an address. frame: the explanation of an address in the example. machine: fetch. machine: the table of what executes. -/
import Derived.Test.YtacaejpamidkcaaGreatDoorR35
set_option linter.unusedVariables false
set_option linter.unusedSimpArgs false
set_option maxRecDepth 100000
set_option maxHeartbeats 2000000
namespace Go.Proofs.YtacaejpamidkcaaGreatDoor
namespace Two
open Go.RowKit
attribute [local go_sem] ak_ af_
attribute [local irreducible] aa_
attribute [local go_sem] dy_ d4_ ds_ eb_ d5_ d6_ ec_ ed_ ee_ ef_ db_ dc_ dd_ de_ df_ dg_ c1_ c2_ c3_ dh_ di_ c4_ dj_ dk_ dl_ dm_
theorem jx_ (g c : Nat) (S : ByteArray) (w : World) (h : w.cell? ⟨g, 0, none⟩ = some (.string S)) :
 Calls Tryz.prog 90 #[.slice (some ⟨g, 0, none⟩) 1 c, .string S] w fun e w' => e = .returned (.int .i64 0) ∧ w' = w := by
 go_enter Tryz.func90, Tryz.ntmps90
 go_wp2
 refine wp_loop_rounds 2 ?_
 rw [rounds_succ]
 go_wp2
 go_ret
 exact ⟨rfl, rfl⟩
theorem sa_ (S : ByteArray) (w : World) :
 Calls Tryz.prog 90 #[.slice none 0 0, .string S] w fun e w' => e = .returned (.int .i64 (-1)) ∧ w' = w := by
 go_enter Tryz.func90, Tryz.ntmps90
 go_wp2
 refine wp_loop_rounds 2 ?_
 rw [rounds_succ]
 go_wp2
 go_ret
 exact ⟨rfl, rfl⟩
def gg_ (a1 : Option Addr) (n1 c1 : Nat) (iv dv : Value) (a5 : Option Addr) (n5 c5 : Nat) : Array Value := #[.slice a1 n1 c1, .slice none 0 0, iv, dv, .slice a5 n5 c5]
def zImg : Array Value := #[.string ⟨#[]⟩, .bool false, .int .i64 0, .int .i64 0, .int .i64 0, .string ⟨#[]⟩, .string ⟨#[]⟩, .int .i64 0, .slice none 0 0, .slice none 0 0, .slice none 0 0, .slice none 0 0, .slice none 0 0, .slice none 0 0, .slice none 0 0, .slice none 0 0,
 .int .i64 0, .slice none 0 0, .slice none 0 0, .slice none 0 0, .slice none 0 0, .slice none 0 0, .slice none 0 0, .slice none 0 0, .slice none 0 0, .slice none 0 0]
theorem sb_ (a1 : Option Addr) (n1 c1 gi ci gd cd : Nat) (a5 : Option Addr) (n5 c5 : Nat) (B : IB) (ID : ByteArray) (w : World) (hi : w.rangeAt gi 0 (aa_ B).toList) (hd : w.cell? ⟨gd, 0, none⟩ = some (.string ID)) (li : gi < w.heap.size) (ld : gd < w.heap.size) :
 Calls Tryz.prog 396 #[.agg (gg_ a1 n1 c1 (.slice (some ⟨gi, 0, none⟩) 1 ci) (.slice (some ⟨gd, 0, none⟩) 1 cd) a5 n5 c5), .string ID] w fun e w' => e = .returned (.tuple #[.agg (aa_ B), .bool true]) ∧ Below w.heap.size w w' := by
 have HI := h1_ hi
 have HD := h1_ hd
 clear hi hd
 go_enter Tryz.func396, Tryz.ntmps396
 unfold gg_
 go_upto_region 1 with fail
 refine ac_ fun V hV => ?_
 have vB : Below w.heap.size w V := by rw [← hV]; go_grown
 have v0 : V.heap[w.heap.size]? = some (.cells #[.slice a1 n1 c1, .slice none 0 0, .slice (some ⟨gi, 0, none⟩) 1 ci, .slice (some ⟨gd, 0, none⟩) 1 cd, .slice a5 n5 c5] 139 (0, 0)) := by rw [← hV]; exact ae_ (heap_alloc_new _ _)
 have v4 : V.heap[w.heap.size + 1]? = some (.cells zImg 52 (0, 0)) := by rw [← hV]; exact block_at (by simp)
 have vd := (vB.cell (p := ⟨gd, 0, none⟩) ld).trans HD.out
 have c2 := ab_ v0 2 rfl; have c3 := ab_ v0 3 rfl
 have lV := lt_of_block v4
 have HV := h4_ vB v0 v4 vd
 clear hV vB v0 v4 vd
 go_wp2_with (first
  | (go_at_call 90; refine (jx_ gd cd ID _ HV.out.2.2.2).mono ?_; rintro e wz ⟨rfl, hwz⟩; rw [hwz]; clear hwz wz)
  | (refine wpList_load_mid rfl 52 _ rfl gi 0 rfl (aa_ B).toList _ (fun j u hj => by rw [Nat.zero_add]; exact (HV.out.1.cell (p := ⟨gi, j, none⟩) li).trans (by have := HI.out j u hj; rwa [Nat.zero_add] at this)) Tryz.underlying52 rfl (au_ B) ?_)
  | ((with_reducible refine ad_ ?_); refine wpList_store_row rfl 52 _ _ rfl _ _ rfl rfl _ _ HV.out.2.2.1 (au_ B) (by unfold aa_; rfl) (eq_ B) ?_))
 have e4 : (V.setRow (w.heap.size + 1) (aa_ B)).heap[w.heap.size + 1]? = some (.cells (aa_ B) 52 (0, 0)) := setRow_heap _ _ _ _ _ _ HV.out.2.2.1
 refine bodyPost_ret (a3_ rfl _ _ (w.heap.size + 1) _ _ _ _ rfl e4 Tryz.underlying52 rfl (au_ B)) rfl ?_
 exact ⟨rfl, ((Only.of_below_le HV.out.1 (fun k _ h => h) : Only (fun b => w.heap.size ≤ b) w V).setRow _ _ (.inl (by show w.heap.size ≤ w.heap.size + 1; omega))).below (Nat.le_refl _) (fun k h => h)⟩
theorem jy_ : (Tryz.prog.info? 52).map (·.size) = some zImg.size := by kernel_rfl
theorem qm_ : zImg.all (·.oneCell') = true := by simp [zImg, Value.oneCell']
theorem sc_ (o : Oper) (a : Act) (w : World) (ho : o.op = .build 52 #[]) : (execOp a.eval o).run Tryz.prog w = .ok (.value (.agg zImg)) w := by
 unfold zImg
 simp [execOp, ho, go_sem]
theorem cf_ {P : Program} {ops : Array Oper} {rest : List Oper} {o : Oper} {a : Act} {w w' : World} {v : Value} {Q : Exit → Act → World → Prop} (hgd : o.guard = none)
 (he : (execOp a.eval o).run P w = .ok (.value v) w') (h : wpList P ops Q rest (a.put o.dst v) w') : wpList P ops Q (o :: rest) a w := by
 refine wpList_plain hgd fun _ hK => ?_
 unfold Oper.wp
 simp [he]
 exact hK _ _ h
theorem ha_ {w V : World} {B : Nat} {o : Nat} {cs : Array Value} {ty : TypeId} {z : Array Value} (hb : Below B w V) (hz : V.heap[o]? = some (.cells z ty (0, 0))) (ho : B ≤ o) (hB : B ≤ w.heap.size) :
 (V.setRow o cs).heap[o]? = some (.cells cs ty (0, 0)) ∧ Below B w (V.setRow o cs) :=
 ⟨setRow_heap _ _ _ _ _ _ hz, below_setRow hb ho _⟩
theorem pa_ (a1 : Option Addr) (n1 c1 : Nat) (a5 : Option Addr) (n5 c5 : Nat) (ID : ByteArray) (w : World) :
 Calls Tryz.prog 396 #[.agg (gg_ a1 n1 c1 (.slice none 0 0) (.slice none 0 0) a5 n5 c5), .string ID] w fun e w' => e = .returned (.tuple #[.agg zImg, .bool false]) ∧ Below w.heap.size w w' := by
 go_enter Tryz.func396, Tryz.ntmps396
 unfold gg_
 go_upto_region 1 with fail
 refine ac_ fun V hV => ?_
 have vB : Below w.heap.size w V := by rw [← hV]; go_grown
 have v0 : V.heap[w.heap.size]? = some (.cells #[.slice a1 n1 c1, .slice none 0 0, .slice none 0 0, .slice none 0 0, .slice a5 n5 c5] 139 (0, 0)) := by rw [← hV]; exact ae_ (heap_alloc_new _ _)
 have v4 : V.heap[w.heap.size + 1]? = some (.cells zImg 52 (0, 0)) := by rw [← hV]; exact block_at (by simp)
 have c2 := al_ v0 2 rfl; have c3 := al_ v0 3 rfl
 have lV := lt_of_block v4
 have HV := h2_ vB v4
 clear hV vB v0 v4
 go_wp2_with (first
  | (go_at_call 90; refine (sa_ ID _).mono ?_; rintro e wz ⟨rfl, hwz⟩; rw [hwz]; clear hwz wz)
  | (refine cf_ rfl (sc_ _ _ _ rfl) ?_)
  | ((with_reducible refine ad_ ?_); refine wpList_store_row rfl 52 _ _ rfl _ _ rfl rfl _ _ HV.out.2 jy_ rfl qm_ ?_))
 obtain ⟨e4, hb⟩ := ha_ (cs := zImg) HV.out.1 HV.out.2 (Nat.le_succ _) (Nat.le_refl _)
 exact bodyPost_ret (a3_ rfl _ _ (w.heap.size + 1) _ _ _ _ rfl e4 Tryz.underlying52 rfl jy_) rfl ⟨rfl, hb⟩
def exC (ID : ByteArray) (B : IB) (at_ : Int) : Array Value := #[Value.int .i64 0, .string ID, .string labS, .bool false, .int .i64 256, .int .i64 256, .int .i64 256, .string B.bytes, .string ⟨#[]⟩, .int .i64 0, .slice none 0 0, .slice none 0 0, .slice none 0 0, .slice none 0 0, .slice none 0 0, .slice none 0 0, .slice none 0 0, .slice none 0 0,
 .int .i64 0, .slice none 0 0, .slice none 0 0, .slice none 0 0, .slice none 0 0, .slice none 0 0, .slice none 0 0, .slice none 0 0, .slice (some ⟨B.gd, 0, none⟩) 1 1, .slice none 0 0, .int .i64 at_, .bool false]
def cm_ : Array Value := #[Value.int .i64 0, .string ⟨#[]⟩, .string ⟨#[]⟩, .bool false, .int .i64 0, .int .i64 0, .int .i64 0, .string ⟨#[]⟩, .string ⟨#[]⟩, .int .i64 0, .slice none 0 0, .slice none 0 0, .slice none 0 0, .slice none 0 0, .slice none 0 0, .slice none 0 0, .slice none 0 0, .slice none 0 0,
 .int .i64 0, .slice none 0 0, .slice none 0 0, .slice none 0 0, .slice none 0 0, .slice none 0 0, .slice none 0 0, .slice none 0 0, .slice none 0 0, .slice none 0 0, .int .i64 0, .bool false]
theorem ib_ (ID : ByteArray) (B : IB) (x : Int) : (Tryz.prog.info? 476).map (·.size) = some (exC ID B x).size := by unfold exC; kernel_rfl
theorem cn_ : (Tryz.prog.info? 476).map (·.size) = some cm_.size := by kernel_rfl
theorem ul_ (ID : ByteArray) (B : IB) (x : Int) : (exC ID B x).all (·.oneCell') = true := by simp [exC, Value.oneCell']
theorem ek_ : cm_.all (·.oneCell') = true := by simp [cm_, Value.oneCell']
theorem m2_ (ID : ByteArray) (B : IB) (x : Int) : cm_.size = (exC ID B x).size := by unfold exC; rfl
theorem jz_ (o : Oper) (a : Act) (w : World) (ho : o.op = .build 476 #[]) : (execOp a.eval o).run Tryz.prog w = .ok (.value (.agg cm_)) w := by
 unfold cm_
 simp [execOp, ho, go_sem]
attribute [local irreducible] zImg cm_ exC
theorem vold (a1 : Option Addr) (n1 c1 : Nat) (i1 : Option Addr) (i2 i3 : Nat) (d1 : Option Addr) (d2 d3 : Nat) (a5 : Option Addr) (n5 c5 : Nat) (x : Int) (w : World) :
 Calls Tryz.prog 395 #[.agg (gg_ a1 n1 c1 (.slice i1 i2 i3) (.slice d1 d2 d3) a5 n5 c5), .int .i64 x] w fun e w' => e = .returned (.tuple #[.agg cm_, .bool false]) ∧ Below w.heap.size w w' := by
 go_enter Tryz.func395, Tryz.ntmps395
 unfold gg_
 go_upto_region 1 with fail
 refine ac_ fun V hV => ?_
 have vB : Below w.heap.size w V := by rw [← hV]; go_grown
 have v0 : V.heap[w.heap.size]? = some (.cells #[.slice a1 n1 c1, .slice none 0 0, .slice i1 i2 i3, .slice d1 d2 d3, .slice a5 n5 c5] 139 (0, 0)) := by rw [← hV]; exact ae_ (heap_alloc_new _ _)
 have v4 : ∃ z : Array Value, z.size = cm_.size ∧ V.heap[w.heap.size + 1]? = some (.cells z 476 (0, 0)) := by rw [← hV]; exact ⟨_, by unfold cm_; rfl, block_at (by simp)⟩
 obtain ⟨z, hz, v4⟩ := v4
 have c1' := al_ v0 1 rfl
 have lV := lt_of_block v4
 have HV := h3_ vB v4 hz
 clear hV vB v0 v4 hz
 go_wp2
 refine wp_loop_rounds 1 ?_
 rw [rounds_succ]
 go_wp2_with (first
  | (refine cf_ rfl (jz_ _ _ _ rfl) ?_)
  | ((with_reducible refine ad_ ?_); refine wpList_store_row rfl 476 _ _ rfl _ _ rfl rfl _ _ HV.out.2.1 cn_ HV.out.2.2 ek_ ?_))
 obtain ⟨e4, hb⟩ := ha_ (cs := cm_) HV.out.1 HV.out.2.1 (Nat.le_succ _) (Nat.le_refl _)
 exact bodyPost_ret (a3_ rfl _ _ (w.heap.size + 1) _ _ _ _ rfl e4 Tryz.underlying476 rfl cn_) rfl ⟨rfl, hb⟩
end Two
namespace Two
open Go.RowKit
attribute [local go_sem] ak_ af_
attribute [local go_sem] dy_ d4_ ds_ eb_ d5_ d6_ ec_ ed_ ee_ ef_ db_ dc_ dd_ de_ df_ dg_ c1_ c2_ c3_ dh_ di_ c4_ dj_ dk_ dl_ dm_
structure ViewAt (B : IB) (ID : ByteArray) (C S : List UInt8) (gm gi gd gc : Nat) (w : World) : Prop where
 mods : w.rangeAt gm 0 [.string labS, .string ID, .int .i64 512, .int .i64 256, .bool false]
 imgs : w.rangeAt gi 0 (aa_ B).toList
 ids : w.cell? ⟨gd, 0, none⟩ = some (.string ID)
 mem : w.rangeAt gc 0 [.int .i64 512, .string ⟨C.toArray⟩, .int .i64 1024, .string ⟨S.toArray⟩]
 lm : gm < w.heap.size
 li : gi < w.heap.size
 ld : gd < w.heap.size
 lc : gc < w.heap.size
 dep : a5_ w B.gd
theorem bh_ {w w' : World} {g o : Nat} {cs : List Value} (h : w.rangeAt g o cs) (hg : g < w.heap.size) (hb : Below w.heap.size w w') : w'.rangeAt g o cs := fun j u hj => (hb.cell (p := ⟨g, o + j, none⟩) hg).trans (h j u hj)
theorem ViewAt.below {B : IB} {ID : ByteArray} {C S : List UInt8} {gm gi gd gc : Nat} {w w' : World} (h : ViewAt B ID C S gm gi gd gc w) (hb : Below w.heap.size w w') : ViewAt B ID C S gm gi gd gc w' where
 mods := bh_ h.mods h.lm hb
 imgs := bh_ h.imgs h.li hb
 ids := (hb.cell (p := ⟨gd, 0, none⟩) h.ld).trans h.ids
 mem := bh_ h.mem h.lc hb
 lm := Nat.lt_of_lt_of_le h.lm hb.size
 li := Nat.lt_of_lt_of_le h.li hb.size
 ld := Nat.lt_of_lt_of_le h.ld hb.size
 lc := Nat.lt_of_lt_of_le h.lc hb.size
 dep := h.dep.below hb
theorem w3_ (t1 t2 t3 t4 : Tmp) (ID : ByteArray) (B : IB) (x : Int) (o : Oper) (a : Act) (w : World) (ho : o.op = .build 476 #[(0, .tmp t1), (1, .tmp t2), (2, .tmp t3), (3, .tmp t4), (4, .const (.bool false))])
 (h1 : a.tmps[t1]?.getD undef = .int .i64 0) (h2 : a.tmps[t2]?.getD undef = .string ID) (h3 : a.tmps[t3]?.getD undef = .agg (aa_ B)) (h4 : a.tmps[t4]?.getD undef = .int .i64 x) : (execOp a.eval o).run Tryz.prog w = .ok (.value (.agg (exC ID B x))) w := by
 unfold aa_ at h3
 unfold exC
 simp [execOp, ho, h1, h2, h3, h4, go_sem]
attribute [local irreducible] aa_ zImg cm_ exC
theorem lv_ (ID : ByteArray) : (Tryz.prog.info? 84).map (·.size) = some [Value.string labS, .string ID, .int .i64 512, .int .i64 256, .bool false].length := by kernel_rfl
def vOne (gm cm gi ci gd cd gc cc : Nat) : Array Value := gg_ (some ⟨gm, 0, none⟩) 1 cm (.slice (some ⟨gi, 0, none⟩) 1 ci) (.slice (some ⟨gd, 0, none⟩) 1 cd) (some ⟨gc, 0, none⟩) 2 cc
theorem il_ (gm cm gi ci gd cd gc cc : Nat) (B : IB) (ID : ByteArray) (C S : List UInt8) (x : Int) (hx1 : 512 ≤ x) (hx2 : x < 768) (w : World) (h : ViewAt B ID C S gm gi gd gc w) :
 Calls Tryz.prog 323 #[.agg (vOne gm cm gi ci gd cd gc cc), .int .i64 x] w fun e w' => e = .returned (.tuple #[.agg (exC ID B (x - 512)), .bool true]) ∧ Below w.heap.size w w' := by
 have HH := h1_ h
 clear h
 go_enter Tryz.func323, Tryz.ntmps323
 unfold vOne gg_
 go_upto_region 1 with fail
 refine ac_ fun V hV => ?_
 have vB : Below w.heap.size w V := by rw [← hV]; go_grown
 have v0 : V.heap[w.heap.size]? = some (.cells #[.slice (some ⟨gm, 0, none⟩) 1 cm, .slice none 0 0, .slice (some ⟨gi, 0, none⟩) 1 ci, .slice (some ⟨gd, 0, none⟩) 1 cd, .slice (some ⟨gc, 0, none⟩) 2 cc] 139 (0, 0)) := by rw [← hV]; exact ae_ (heap_alloc_new _ _)
 have v4 : ∃ z : Array Value, z.size = cm_.size ∧ V.heap[w.heap.size + 1]? = some (.cells z 476 (0, 0)) := by rw [← hV]; exact ⟨_, by unfold cm_; rfl, block_at (by simp)⟩
 obtain ⟨z, hz, v4⟩ := v4
 have HV := h4_ vB v0 v4 hz
 have lV := lt_of_block v4
 clear hV vB v0 v4 hz
 go_wp2_with (refine wpList_load_row rfl 139 (.tmp 2) rfl w.heap.size rfl 139 #[.slice (some ⟨gm, 0, none⟩) 1 cm, .slice none 0 0, .slice (some ⟨gi, 0, none⟩) 1 ci, .slice (some ⟨gd, 0, none⟩) 1 cd, .slice (some ⟨gc, 0, none⟩) 2 cc] (0, 0) _ HV.out.2.1 Tryz.underlying139 rfl (by kernel_rfl) ?_)
 refine (vold (some ⟨gm, 0, none⟩) 1 cm (some ⟨gi, 0, none⟩) 1 ci (some ⟨gd, 0, none⟩) 1 cd (some ⟨gc, 0, none⟩) 2 cc x V).mono ?_
 rintro e w1 ⟨rfl, hb1⟩
 have b1 := HV.out.1.trans (hb1.mono HV.out.1.size)
 have k0 := at_b hb1 HV.out.2.1
 have k4 := at_b hb1 HV.out.2.2.1
 have lw1 := lt_of_block k4
 have H1 := h3_ b1 k0 k4
 clear hb1 b1 k0 k4
 go_upto_region 2 with ((with_reducible refine ad_ ?_); refine wpList_store_row rfl 476 _ _ rfl _ _ rfl rfl _ _ (heap_alloc_new _ _) cn_ (by unfold cm_; rfl) ek_ ?_; (try simp only [World.setRow_alloc_new]))
 refine ac_ fun X hX => ?_
 have xB : Below w1.heap.size w1 X := by rw [← hX]; go_grown
 have b2 := H1.out.1.trans (xB.mono H1.out.1.size)
 have k0 := at_b xB H1.out.2.1
 have k4 := at_b xB H1.out.2.2
 have c0 := al_ k0 0 rfl
 have lX := lt_of_block k4
 have hv := HH.out.below b2
 have H2 := h4_ b2 k0 k4 hv
 clear hX xB b2 k0 k4 hv
 go_wp2
 refine wp_loop_rounds 2 ?_
 rw [rounds_succ]
 go_upto_region 7 with (first
  | (refine wpList_load_mid rfl 84 (.tmp 26) rfl gm 0 rfl [.string labS, .string ID, .int .i64 512, .int .i64 256, .bool false] _ H2.out.2.2.2.mods Tryz.underlying84 rfl (lv_ ID) ?_)
  | ((with_reducible refine ad_ ?_); refine sr_ rfl rfl (h := ?_); (try simp only [World.setRow_alloc_new])))
 refine ac_ fun Y hY => ?_
 have yB : Below X.heap.size X Y := by rw [← hY]; go_grown
 have y9 : Y.heap[X.heap.size]? = some (.cells #[.string labS, .string ID, .int .i64 512, .int .i64 256, .bool false] 84 (0, 0)) := by rw [← hY]; exact heap_alloc_new _ _
 have b3 := H2.out.1.trans (yB.mono H2.out.1.size)
 have k0 := at_b yB H2.out.2.1
 have k4 := at_b yB H2.out.2.2.1
 have d1 := al_ y9 1 rfl; have d2 := al_ y9 2 rfl
 have lY := lt_of_block y9
 have H3 := h5_ b3 k0 k4 (H2.out.2.2.2.below yB) y9
 have lk0 := lt_of_block k0
 have lk4 := lt_of_block k4
 clear hY yB y9 b3 k0 k4 H2 c0
 have hx1' : ¬ x < 512 := by omega
 go_wp2_with (refine wpList_load_row rfl 139 (.tmp 2) rfl w.heap.size rfl 139 #[.slice (some ⟨gm, 0, none⟩) 1 cm, .slice none 0 0, .slice (some ⟨gi, 0, none⟩) 1 ci, .slice (some ⟨gd, 0, none⟩) 1 cd, .slice (some ⟨gc, 0, none⟩) 2 cc] (0, 0) _ H3.out.2.1 Tryz.underlying139 rfl (by kernel_rfl) ?_)
 refine (sb_ (some ⟨gm, 0, none⟩) 1 cm gi ci gd cd (some ⟨gc, 0, none⟩) 2 cc B ID _ H3.out.2.2.2.1.imgs H3.out.2.2.2.1.ids H3.out.2.2.2.1.li H3.out.2.2.2.1.ld).mono ?_
 rintro e w4 ⟨rfl, hb4⟩
 have b4 := H3.out.1.trans (hb4.mono H3.out.1.size)
 have k0 := at_b hb4 H3.out.2.1
 have k4 := at_b hb4 H3.out.2.2.1
 have k9 := at_b hb4 H3.out.2.2.2.2
 have H4 := h4_ b4 k0 k4 k9
 clear hb4 b4 k0 k4 k9 H3 d1 d2
 go_upto_region 9 with ((with_reducible refine ad_ ?_); refine wpList_store_row rfl 52 _ _ rfl _ _ rfl rfl _ _ (heap_alloc_new _ _) (au_ B) (by unfold aa_; rfl) (eq_ B) ?_; (try simp only [World.setRow_alloc_new]))
 refine ac_ fun Z hZ => ?_
 have zB : Below w4.heap.size w4 Z := by rw [← hZ]; go_grown
 have z10 : Z.heap[w4.heap.size]? = some (.cells (aa_ B) 52 (0, 0)) := by rw [← hZ]; exact heap_alloc_new _ _
 have b5 := H4.out.1.trans (zB.mono H4.out.1.size)
 have k4 := at_b zB H4.out.2.2.1
 have k9 := at_b zB H4.out.2.2.2
 have e2 := al_ z10 2 (ds_ B)
 have d1 := al_ k9 1 rfl; have d2 := al_ k9 2 rfl
 have lz10 := lt_of_block z10
 have lz9 := lt_of_block k9
 have lz4 := lt_of_block k4
 have H5 := h3_ b5 k4 z10
 clear hZ zB z10 b5 k4 k9 H4
 have w512 : wrap64 (x - 512) = x - 512 := by unfold wrap64; omega
 go_wp2_with (first
  | (refine wpList_load_row rfl 52 (.tmp 10) rfl w4.heap.size rfl 52 (aa_ B) (0, 0) _ H5.out.2.2 Tryz.underlying52 rfl (au_ B) ?_)
  | (refine cf_ rfl (w3_ 54 56 57 61 ID B (x - 512) _ _ _ rfl rfl rfl rfl rfl) ?_)
  | ((with_reducible refine ad_ ?_); refine wpList_store_row rfl 476 _ _ rfl _ _ rfl rfl _ _ H5.out.2.1 (ib_ ID B (x - 512)) (by rw [HV.out.2.2.2]; exact m2_ ID B (x - 512)) (ul_ ID B (x - 512)) ?_))
 obtain ⟨e4, hb⟩ := ha_ (cs := exC ID B (x - 512)) H5.out.1 H5.out.2.1 (Nat.le_succ _) (Nat.le_refl _)
 exact bodyPost_ret (a3_ rfl _ _ (w.heap.size + 1) _ _ _ _ rfl e4 Tryz.underlying476 rfl (ib_ ID B (x - 512))) rfl ⟨rfl, hb⟩
end Two
section
open Go.RowKit
attribute [local go_sem] ak_ af_
structure FetchAt (ps : List Part) (pc op a b c imm : Int) : Prop where
 at_ : ∃ j, ∃ hk : LastAt ps pc j, pc - (ps[j]'hk.lt).at_ + 8 ≤ (ps[j]'hk.lt).size ∧ (ps[j]'hk.lt).kind = 0 ∧
  ∀ w, Forms w → Calls Tryz.prog 247 #[.string ⟨(gj_ (ps[j]'hk.lt) pc 8).toArray⟩, .int .i64 0] w fun e w' => Below w.heap.size w w' ∧ e = .returned (.tuple #[insV op a b c imm, .bool true])
 word : pc.tmod 8 = 0
theorem w4_ (s gp cap : Nat) (ps : List Part) (pc op a b c imm : Int) (w : World) (hA : AreasOk ps) (hsp : SpaceAt w s (.slice (some ⟨gp, 0, none⟩) ps.length cap) ps) (hf : Forms w) (h : FetchAt ps pc op a b c imm) :
 Calls Tryz.prog 167 #[.pointer (some ⟨s, 0, none⟩), .int .i64 pc] w fun e w' => Below w.heap.size w w' ∧ e = .returned (.tuple #[insV op a b c imm, .int .i64 0]) := by
 obtain ⟨⟨j, hk, hin, hkind, hdec⟩, hm⟩ := h
 have hls := lt_of_block hsp.head
 have e1 := hA.each _ (List.getElem_mem hk.lt)
 have e2 := hk.le
 have hpc0 : 0 ≤ pc := by omega
 have hpc1 : pc ≤ 1099511627776 := by omega
 have hm2 : pc % 8 = 0 := by rw [← Int.tmod_eq_emod_of_nonneg hpc0]; exact hm
 have hm3 : (pc.tmod 8 != 0) = false := by rw [hm]; rfl
 have hm4 : (pc % 8 != 0) = false := by rw [hm2]; rfl
 have HS := h6_ hA hsp hf hin hkind hdec
 clear hA hsp hf hin hkind hdec hm hm2 e1 e2
 unfold insV at *
 go_enter Tryz.func167, Tryz.ntmps167
 go_wp2_with fail
 go_at_call 246
 have vB : Below w.heap.size w (w.alloc (.cells #[.int .i64 0, .int .i64 0, .int .i64 0, .int .i64 0, .int .i64 0] 105)) := (Below.refl _ _).alloc (Nat.le_refl _) _
 refine (s3_ s gp cap ps pc _ HS.out.1 (HS.out.2.1.below vB) j hk _ rfl (by have := HS.out.2.2.2.1; omega)).mono ?_
 rintro e w1 ⟨hb1, rfl⟩
 have k4 := b9_ hb1
 have wB := aw_ vB hb1
 have HK := h2_ wB k4
 clear vB wB k4 hb1
 unfold areaV
 go_wp2_with ((with_reducible refine ad_ ?_); refine sr_ rfl rfl (h := ?_); (try simp only [World.setRow_alloc_new]))
 go_at_call 83
 have uB : Below w1.heap.size w1 (w1.alloc (.cells #[.int .i64 (ps[j]'hk.lt).at_, .int .i64 (ps[j]'hk.lt).size, .int .i64 (ps[j]'hk.lt).kind, .int .i64 (ps[j]'hk.lt).owner, .int .i64 (ps[j]'hk.lt).mod] 173)) := (Below.refl _ _).alloc (Nat.le_refl _) _
 refine (oz_ s _ ps pc 8 _ HS.out.1 ((HS.out.2.1.below HK.out.1).below uB) j hk HS.out.2.2.2.1 (by omega)).mono ?_
 rintro e w2 ⟨hb2, rfl⟩
 have k6 := b9_ hb2
 have l4 := lt_of_block HK.out.2
 have l12 := eo_ hb2
 have k4 := (hb2.block _ (by simp; omega)).trans (ae_ (o' := .cells #[.int .i64 (ps[j]'hk.lt).at_, .int .i64 (ps[j]'hk.lt).size, .int .i64 (ps[j]'hk.lt).kind, .int .i64 (ps[j]'hk.lt).owner, .int .i64 (ps[j]'hk.lt).mod] 173) HK.out.2)
 have c2 : w2.cell? ⟨w1.heap.size, 2, none⟩ = some (.int .i64 0) := by
  have := al_ k6 2 rfl
  rw [this, HS.out.2.2.2.2.1]
  rfl
 have wB := HK.out.1.trans ((aw_ uB hb2).mono HK.out.1.size)
 have HK2 := h2_ wB k4
 clear uB hb2 k6 k4 wB
 go_wp2_with fail
 go_at_call 247
 refine (HS.out.2.2.2.2.2 _ (HS.out.2.2.1.below HK2.out.1)).mono ?_
 rintro e w3 ⟨hb3, rfl⟩
 have k4 := at_b hb3 HK2.out.2
 have l3 := lt_of_block k4
 have f4 := ag_ k4 0
 have wB := HK2.out.1.trans (hb3.mono HK2.out.1.size)
 have HK3 := h2_ wB k4
 have HB3 := h1_ hb3
 clear k4 wB hb3 c2
 have k4 := HK3.out.2
 go_wp2_with ((with_reducible refine ad_ ?_); refine sr_ rfl rfl (h := ?_); (try simp only [World.setRow_alloc_new]))
 obtain ⟨wB, k4⟩ := HK3.out
 have hcell : ((w3.alloc (.cells #[.int .i64 op, .int .i64 a, .int .i64 b, .int .i64 c, .int .i64 imm] 105)).setRow w.heap.size #[.int .i64 op, .int .i64 a, .int .i64 b, .int .i64 c, .int .i64 imm]).heap[w.heap.size]? = some (.cells #[.int .i64 op, .int .i64 a, .int .i64 b, .int .i64 c, .int .i64 imm] 105 (0, 0)) := setRow_heap _ _ _ _ _ _ (ae_ k4)
 refine ac_ fun Z hZ => ?_
 rw [hZ] at hcell
 refine bodyPost_ret (a3_ (t2 := 5) rfl _ _ w.heap.size _ _ _ _ rfl hcell Tryz.underlying105 rfl (by kernel_rfl)) rfl ?_
 rw [← hZ]
 exact ⟨((Only.of_below_le (wB.trans ((Below.refl _ _).alloc wB.size _)) (fun k _ h => h) : Only (fun b => w.heap.size ≤ b) w _).setRow _ _ (.inl (Nat.le_refl _))).below (Nat.le_refl _) (fun k h => h), rfl⟩
end
section
open Go.RowKit
attribute [local go_sem] ak_ af_
def j0_ : Array Value := #[.nilFunc, .func (.func 248) #[] #[], .func (.func 249) #[] #[], .func (.func 250) #[] #[], .func (.func 252) #[] #[], .func (.func 253) #[] #[], .func (.func 255) #[] #[], .func (.func 257) #[] #[], .func (.func 258) #[] #[], .func (.func 259) #[] #[], .func (.func 260) #[] #[], .func (.func 261) #[] #[], .func (.func 263) #[] #[], .func (.func 264) #[] #[], .func (.func 265) #[] #[], .func (.func 266) #[] #[], .func (.func 268) #[] #[], .func (.func 269) #[] #[], .func (.func 271) #[] #[], .func (.func 272) #[] #[], .func (.func 274) #[] #[], .func (.func 275) #[] #[], .func (.func 276) #[] #[], .func (.func 278) #[] #[], .func (.func 279) #[] #[], .func (.func 281) #[] #[], .func (.func 282) #[] #[], .func (.func 284) #[] #[], .func (.func 285) #[] #[], .func (.func 286) #[] #[], .func (.func 287) #[] #[]]
theorem w5_ (w : World) : Calls Tryz.prog 168 #[] w fun e w' => Below w.heap.size w w' ∧ e = .returned (.agg j0_) := by
 unfold j0_
 go_enter Tryz.func168, Tryz.ntmps168
 go_wp2_with ((with_reducible refine ad_ ?_); refine sr_ rfl rfl (h := ?_); (try simp only [World.setRow_alloc_new]))
 refine bodyPost_ret (results_cell_row rfl _ _ w.heap.size _ _ _ _ rfl (heap_alloc_new _ _) Tryz.underlying321 rfl (by kernel_rfl)) rfl ?_
 exact ⟨(Below.refl _ _).alloc (Nat.le_refl _) _, rfl⟩
end
end Go.Proofs.YtacaejpamidkcaaGreatDoor
