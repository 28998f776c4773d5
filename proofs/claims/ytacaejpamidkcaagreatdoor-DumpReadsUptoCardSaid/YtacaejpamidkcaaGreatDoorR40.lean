/- frame: Of the example's process. frame: what is not explained in the example. frame: the depth of an explanation; a word of a dump's memory. frame: Load of a word of a dump's memory. frame: walk of the example's view. -/
import Derived.Test.YtacaejpamidkcaaGreatDoorR39
set_option linter.unusedVariables false
set_option linter.unusedSimpArgs false
set_option maxRecDepth 100000
set_option maxHeartbeats 4000000
namespace Go.Proofs.YtacaejpamidkcaaGreatDoor
namespace Two
open Go.RowKit
attribute [local go_sem] ak_ af_
theorem modC_g0 (B : IB) (x y : Int) : (modC B x y)[(0 : Nat)]? = some (.string labS) := by unfold modC aa_; rfl
theorem modC_g4 (B : IB) (x y : Int) : (modC B x y)[(4 : Nat)]? = some (.int .i64 256) := by unfold modC aa_; rfl
theorem xj_ (B : IB) (x y : Int) : (modC B x y)[(26 : Nat)]? = some (.int .i64 x) := by unfold modC aa_; rfl
theorem xk_ (B : IB) (x y : Int) : (modC B x y)[(30 : Nat)]? = some (.bool false) := by unfold modC aa_; rfl
theorem qy_ (B : IB) (x y : Int) {j : Nat} {u : Value} (h : (aa_ B).toList[j]? = some u) : (modC B x y)[j]? = some u := by
 unfold modC
 rw [List.getElem?_append_left (List.getElem?_eq_some_iff.1 h).1]
 exact h
theorem qz_ (B : IB) (x y : Int) : (modC B x y).toArray.size = 32 := by unfold modC aa_; rfl
theorem modC_sz (B : IB) (x y : Int) : (Tryz.prog.info? 127).map (·.size) = some (modC B x y).toArray.size := by rw [qz_]; kernel_rfl
theorem modC_ln (B : IB) (x y : Int) : (Tryz.prog.info? 127).map (·.size) = some (modC B x y).length := by rw [ix_]; kernel_rfl
theorem xl_ (B : IB) (x y : Int) : (modC B x y).toArray.all (·.oneCell') = true := by simpa using iy_ B x y
theorem u5_ : (Tryz.prog.info? 84).map (fun i => (i.zero, i.size, i.bytes)) = some (some (.agg #[.string ⟨#[]⟩, .string ⟨#[]⟩, .int .i64 0, .int .i64 0, .bool false]), 5, 56) := by kernel_rfl
theorem u6_ : (Tryz.prog.info? 52).map (fun i => (i.zero, i.size, i.bytes)) = some (some (.agg zImg), 26, 504) := by kernel_rfl
theorem sg_ : (Value.agg zImg).cells.size = 26 := by unfold zImg; rfl
theorem u7_ (B : IB) : (aa_ B).toList.length = 26 := by unfold aa_; rfl
theorem xm_ (B : IB) : ∀ u ∈ (aa_ B).toList, u.oneCell' = true := by unfold aa_; simp [Value.oneCell']
theorem fy_ (t : Tmp) (B : IB) (o : Oper) (a : Act) (w : World) (ho : o.op = .buildSlice 58 1 #[(0, .tmp t)]) (ht : a.tmps[t]?.getD undef = .agg (aa_ B)) :
 (execOp a.eval o).run Tryz.prog w = .ok (.value (sl 1 w.heap.size)) (w.alloc (.cells (aa_ B) 52)) := by
 unfold aa_ at *
 unfold sl
 simp [execOp, ho, ht, go_sem]
theorem g4_ (t : Tmp) (S : ByteArray) (o : Oper) (a : Act) (w : World) (ho : o.op = .buildSlice 40 1 #[(0, .tmp t)]) (ht : a.tmps[t]?.getD undef = .string S) :
 (execOp a.eval o).run Tryz.prog w = .ok (.value (sl 1 w.heap.size)) (w.alloc (.cells #[.string S] 9)) := by
 unfold sl
 simp [execOp, ho, ht, go_sem]
theorem gu_ {P : Program} {o : Oper} {a : Act} {w : World} (x : Tmp) (ty : TypeId) (ho : o.op = .load ty (.tmp x)) (b off : Nat) (hx : a.tmps[x]?.getD undef = .pointer (some ⟨b, off, none⟩)) (cs : List Value) (d : TypeDesc) (hc : w.rangeAt b off cs)
 (hu : P.underlying ty = some d) (hd : d.isRow = true) (hi : (P.info? ty).map (·.size) = some cs.length) : (execOp a.eval o).run P w = .ok (.value (.agg cs.toArray)) w := by
 simp [execOp, ho, Act.eval, hx, Instr.loadAt, Instr.sureAddr, run_loadVar_mid w b off ty cs d hc hu hd hi]
theorem k7_ {S : Nat → Prop} {w w' : World} {b : Option Nat} (h : w.grownBy w' b) (hs : ∀ x, x < w.heap.size → b = some x → S x) : Only S w w' :=
 by
 obtain ⟨a1, a2, a3, a4, a5⟩ := h
 exact ⟨a1, a2, a3, a4, fun k hk hn => a5 k hk (fun e => hn (hs k hk e.symm))⟩
theorem gi_ {w w' : World} {b : Option Nat} (h : w.grownBy w' b) {k : Nat} (hk : k < w.heap.size) (hn : b ≠ some k) : w'.heap[k]? = w.heap[k]? := by
 obtain ⟨a1, a2, a3, a4, a5⟩ := h
 exact a5 k hk (fun e => hn e.symm)
theorem nf_ : (Tryz.prog.info? 9).map (fun i => (i.zero, i.size, i.bytes)) = some (some (.string ⟨#[]⟩), 1, 16) := by kernel_rfl
theorem u8_ : (Tryz.prog.info? 65).map (fun i => (i.zero, i.size, i.bytes)) = some (some (.agg #[.int .i64 0, .string ⟨#[]⟩]), 2, 24) := by kernel_rfl
attribute [local irreducible] aa_ modC
theorem vof (t : Nat → Nat) (c : Nat → Int) (p s b l gt ct gp cap b1 b2 gz st gm cm s' b' : Nat) (D : List UInt8) (hD : D.length = 1024) (r : Nat → Int) (pc : Int) (calls ord : Value) (B : IB) (hBs : B.bytes.size ≤ 1000000) (w : World) (h : RunAt p s b l gt ct gp cap b1 b2 gz D r pc calls w)
 (hl : w.heap[l]? = some (.cells (bj_ s' b' st (.slice (some ⟨gm, 0, none⟩) 1 cm) ord).toArray 167 (0, 0)))
 (hm : w.ownsRow 0 127 32 (.slice (some ⟨gm, 0, none⟩) 1 cm) 1 (modC B 512 1)) (hd : a5_ w B.gd) (hT : Tabs t c w) :
 Calls Tryz.prog 40 #[.pointer (some ⟨p, 0, none⟩), .slice none 0 0] w fun e w' => ∃ am ac ai aci ad acd ak ack, e = .returned (.agg (gg_ (some ⟨am, 0, none⟩) 1 ac (.slice (some ⟨ai, 0, none⟩) 1 aci) (.slice (some ⟨ad, 0, none⟩) 1 acd) (some ⟨ak, 0, none⟩) 2 ack)) ∧
  ViewAt B ⟨(Dig.sumL t c (imgL B)).toArray⟩ twoL D am ai ad ak w' ∧ (w.heap.size ≤ am ∧ w.heap.size ≤ ai ∧ w.heap.size ≤ ad ∧ w.heap.size ≤ ak) ∧ Below w.heap.size w w' := by
 have HH := h5_ h hl hm hd hT
 have HB := h1_ hBs
 obtain ⟨ID, hID⟩ : ∃ ID, ID = (⟨(Dig.sumL t c (imgL B)).toArray⟩ : ByteArray) := ⟨_, rfl⟩
 rw [← hID]
 have HID := h1_ hID
 have lp := lt_of_block h.head
 clear h hl hm hd hT hID hBs
 go_enter Tryz.func40, Tryz.ntmps40
 go_wp2_with fail
 go_at_call 79
 refine (hstrata p s b l _ _ (ae_ HH.out.1.head)).mono ?_
 rintro e wz ⟨rfl, hwz⟩
 rw [hwz]
 clear hwz wz
 go_upto_region 2 with ((with_reducible refine ad_ ?_); refine wpList_store_row rfl 139 _ _ rfl _ _ rfl rfl _ _ (heap_alloc_new _ _) (by kernel_rfl) rfl (by simp [Value.oneCell']) ?_; (try simp only [World.setRow_alloc_new]))
 refine ac_ fun V hV => ?_
 have vB : Below w.heap.size w V := by rw [← hV]; go_grown
 have v4 : V.heap[w.heap.size]? = some (.cells #[.slice none 0 0, .slice none 0 0, .slice none 0 0, .slice none 0 0, .slice none 0 0] 139 (0, 0)) := by rw [← hV]; exact ae_ (heap_alloc_new _ _)
 have v5 : V.heap[w.heap.size + 1]? = some (.cells #[.slice none 0 0, .slice none 0 0, .slice none 0 0, .slice none 0 0, .slice none 0 0] 139 (0, 0)) := by rw [← hV]; exact block_at (by simp)
 have lV := lt_of_block v5
 have HV := h3_ vB v4 v5
 clear hV vB v4 v5
 go_wp2_with fail
 go_at_call 80
 have hb := HV.out.1
 refine (hmods B p s b l st gm cm s' b' _ ord _ ((hb.block _ lp).trans HH.out.1.head) (at_b hb HH.out.2.1) (ai_ HH.out.2.2.1 hb)).mono ?_
 rintro e w1 ⟨hb1, gq, cq, rfl, hown⟩
 have k4 := at_b hb1 HV.out.2.1
 have k5 := at_b hb1 HV.out.2.2
 have B1 := HV.out.1.trans (hb1.mono HV.out.1.size)
 have l5 := lt_of_block k5
 have H1 := h4_ B1 k4 k5 hown
 clear hb hb1 k4 k5 hown B1
 go_wp2_with fail
 refine wp_loop_rounds 2 ?_
 rw [rounds_succ]
 go_upto_region 5 with (first
  | (refine wpList_load_mid rfl 127 (.tmp 23) rfl gq 0 rfl (modC B 512 1) _ (row_range H1.out.2.2.2) Tryz.underlying127 rfl (modC_ln B 512 1) ?_)
  | ((with_reducible refine ad_ ?_); refine wpList_store_row rfl 127 _ _ rfl _ _ rfl rfl _ _ (heap_alloc_new _ _) (modC_sz B 512 1) (by rw [qz_]; rfl) (xl_ B 512 1) ?_; (try simp only [World.setRow_alloc_new])))
 refine ac_ fun X hX => ?_
 have xB : Below w1.heap.size w1 X := by rw [← hX]; go_grown
 have x7 : X.heap[w1.heap.size]? = some (.cells (modC B 512 1).toArray 127 (0, 0)) := by rw [← hX]; exact heap_alloc_new _ _
 have k4 := at_b xB H1.out.2.1
 have k5 := at_b xB H1.out.2.2.1
 have B2 := H1.out.1.trans (xB.mono H1.out.1.size)
 have l7 := lt_of_block x7
 have l5 := lt_of_block k5
 have HX := h4_ B2 k4 k5 x7
 clear hX xB x7 k4 k5 B2 H1
 go_wp2_with (refine wpList_load_mid rfl 52 (.tmp 25) rfl w1.heap.size 0 rfl (aa_ B).toList _ (fun j u hj => by rw [Nat.zero_add]; exact ab_ HX.out.2.2.2 j (qy_ B 512 1 hj)) Tryz.underlying52 rfl (au_ B) ?_)
 go_at_call 42
 refine (iid t c B _ (HH.out.2.2.2.2.below HX.out.1) (HH.out.2.2.2.1.below HX.out.1) HB.out).mono ?_
 rintro e w2 ⟨rfl, hb2⟩
 unfold strB
 rw [← HID.out]
 have k4 := at_b hb2 HX.out.2.1
 have k5 := at_b hb2 HX.out.2.2.1
 have k7 := at_b hb2 HX.out.2.2.2
 have B2 := HX.out.1.trans (hb2.mono HX.out.1.size)
 have l7 := lt_of_block k7
 have l5 := lt_of_block k5
 have m0 := ab_ k7 0 (modC_g0 B 512 1); have m4 := ab_ k7 4 (modC_g4 B 512 1); have m26 := ab_ k7 26 (xj_ B 512 1); have m30 := ab_ k7 30 (xk_ B 512 1)
 have q0 := al_ k5 0 rfl
 have H2 := h4_ B2 k4 k5 k7
 clear hb2 k4 k5 k7 B2 HX
 obtain ⟨i0, hi, hz0, hz1, hz2⟩ := info_parts u5_
 go_wp2_with (at_builtin; refine wpList_append_lies _ rfl _ _ _ rfl w2.heap.size 84 i0 (.agg #[.string ⟨#[]⟩, .string ⟨#[]⟩, .int .i64 0, .int .i64 0, .bool false]) 5 56 Tryz.underlying22 hi hz0 hz1 hz2 rfl (by omega) _ 0 _ rfl (World.ownsRow_nil _ w2.heap.size 84 5) ⟨w2.heap.size, 0, none⟩ 1 1 [.string labS, .string ID, .int .i64 512, .int .i64 256, .bool false] rfl rfl ?n1 ?n2 (by omega) ?n3 ?n4 ?n5 (w2.heap.size + 1) (by simp) ?_)
 case n1 => exact World.news_of_block (cs := #[.string labS, .string ID, .int .i64 512, .int .i64 256, .bool false]) (t := 84) (fr := (0, 0)) (heap_alloc_new w2 _)
 case n2 => simp [Value.oneCell']
 case n3 => unfold maxLen; omega
 case n4 => omega
 case n5 => simp
 intro am ac w3 hown hgrow hat hlt
 have hb3 : Below w2.heap.size w2 w3 := ((Below.refl _ _).alloc (Nat.le_refl _) _).grown hgrow (by simp) (fun q hq => by simp [Value.ownBlock] at hq)
 have k4 := at_b hb3 H2.out.2.1
 have k5 := at_b hb3 H2.out.2.2.1
 have k7 := at_b hb3 H2.out.2.2.2
 have B3 := H2.out.1.trans (hb3.mono H2.out.1.size)
 have q0 := al_ k5 0 rfl; have f0 := ag_ k5 0
 have lw2 : w.heap.size + 2 ≤ w2.heap.size := by have := lt_of_block H2.out.2.2.1; omega
 have lgm := (ah_ hown).1
 try simp only [Nat.zero_add, List.nil_append] at hown
 have H3 := h5_ B3 k4 k5 k7 hown
 have l5 := lt_of_block k5
 have l7 := lt_of_block k7
 clear hb3 k4 k5 k7 B3 hown hgrow hat hlt H2 m0 m4 m26 m30
 go_upto_region 7 with fail
 refine ac_ fun U hU => ?_
 have uo : Only (· = w.heap.size + 1) w3 U := by rw [← hU]; exact (Only.refl (· = w.heap.size + 1) w3).setCell _ _ (.inl rfl)
 have u5 : U.heap[w.heap.size + 1]? = some (.cells [.slice (some ⟨am, 0, none⟩) 1 ac, .slice none 0 0, .slice none 0 0, .slice none 0 0, .slice none 0 0].toArray 139 (0, 0)) := by rw [← hU]; exact aj_ H3.out.2.2.1 0 _
 have u4 := uo.kept H3.out.2.1 (by omega)
 have u7 := uo.kept H3.out.2.2.2.1 (by have := lt_of_block H3.out.2.2.2.1; omega)
 have um := ao_ H3.out.2.2.2.2 uo (by omega)
 have uB : Below w.heap.size w U := ((Only.of_below_le H3.out.1 (fun k _ h => h) : Only (fun b => w.heap.size ≤ b) w w3).then uo (by intro k _ h; omega)).below (Nat.le_refl _) (fun k h => h)
 have lU := uo.size
 have HU := h5_ uB u4 u5 u7 um
 have lu5 := lt_of_block u5
 clear hU uo u4 um uB q0 f0 H3
 refine wr_ [.pt (w.heap.size + 1) 2, .val (.slice none 0 0), .pt w1.heap.size 0, .val (.agg (aa_ B)), .more (fun v w' => ∃ q, v = sl 1 q ∧ w'.heap[q]? = some (.cells (aa_ B) 52 (0, 0))) (fun v w' w'' hb h => by obtain ⟨q, h1, h2⟩ := h; exact ⟨q, h1, at_b hb h2⟩), .more (fun v w' => ∃ g cap, v = .slice (some ⟨g, 0, none⟩) 1 cap ∧ w'.ownsRow U.heap.size 52 26 (.slice (some ⟨g, 0, none⟩) 1 cap) 1 (aa_ B).toList) (fun v w' w'' hb h => by obtain ⟨g, cap, h1, h2⟩ := h; exact ⟨g, cap, h1, ai_ h2 hb⟩), .pt (w.heap.size + 1) 3, .val (.slice none 0 0), .val (.string ID), .more (fun v w' => ∃ q, v = sl 1 q ∧ w'.heap[q]? = some (.cells #[.string ID] 9 (0, 0))) (fun v w' w'' hb h => by obtain ⟨q, h1, h2⟩ := h; exact ⟨q, h1, at_b hb h2⟩), .more (fun v w' => ∃ g cap, v = .slice (some ⟨g, 0, none⟩) 1 cap ∧ w'.ownsRow U.heap.size 9 1 (.slice (some ⟨g, 0, none⟩) 1 cap) 1 [.string ID]) (fun v w' w'' hb h => by obtain ⟨g, cap, h1, h2⟩ := h; exact ⟨g, cap, h1, ai_ h2 hb⟩), .pt (w.heap.size + 1) 2] (by kernel_rfl) (by kernel_rfl) ?_ ?_
 · simp only [ck_, List.take, List.length]
   refine ⟨?_, ?_, ?_, ?_, ?_, ?_, ?_, ?_, ?_, ?_, ?_, ?_, ?_⟩
   all_goals first | trivial | (intro a wr hb hf hd)
   all_goals have hf5 : zp_ a 5 (w.heap.size + 1) 0 := (hf 5).trans rfl
   all_goals have hf7 : zp_ a 7 w1.heap.size 0 := (hf 7).trans rfl
   all_goals have hf8 : z_ a 8 (.string ID) := (hf 8).trans rfl
   · exact gp_ (by simp [execOp, hf5, go_sem])
   · have h45 : z_ a 45 _ := hd 0
     have hc := ab_ (at_b hb u5) 2 rfl
     exact gp_ (by simp [execOp, h45, hc, go_sem])
   · exact gp_ (by simp [execOp, hf7, go_sem])
   · have h47 : z_ a 47 _ := hd 2
     exact av_ (v := .agg (aa_ B)) (gu_ 47 52 rfl w1.heap.size 0 h47 (aa_ B).toList _ (fun j u hj => by rw [Nat.zero_add]; exact ab_ (at_b hb u7) j (qy_ B 512 1 hj)) Tryz.underlying52 rfl (au_ B)) (Below.refl _ _) ⟨rfl, fun h => by cases h⟩
   · have h48 : z_ a 48 _ := hd 3
     exact av_ (fy_ 48 B _ _ _ rfl h48) ((Below.refl _ _).alloc (Nat.le_refl _) _) ⟨⟨_, rfl, heap_alloc_new _ _⟩, fun _ b hb => b2_ hb⟩
   · have h46 : z_ a 46 _ := hd 1
     obtain ⟨q, h49, hq⟩ : ∃ q, a.tmps[(49 : Nat)]?.getD undef = sl 1 q ∧ wr.heap[q]? = some (.cells (aa_ B) 52 (0, 0)) := hd 4
     refine ca_ 46 49 58 52 _ 26 504 rfl Tryz.underlying58 u6_ sg_ (by omega) q 1 (aa_ B).toList h46 h49 (by simpa using hq) (u7_ B) (xm_ B) (by omega) ?_
     intro cap w' ho hb'
     exact ⟨⟨_, cap, rfl, ap_ ho hb.size⟩, fun h => by cases h⟩
   · exact gp_ (by simp [execOp, hf5, go_sem])
   · have h51 : z_ a 51 _ := hd 6
     have hc := ab_ (at_b hb u5) 3 rfl
     exact gp_ (by simp [execOp, h51, hc, go_sem])
   · exact as_ _ rfl ⟨hf8, fun h => by cases h⟩
   · have h53 : z_ a 53 _ := hd 8
     exact av_ (g4_ 53 ID _ _ _ rfl h53) ((Below.refl _ _).alloc (Nat.le_refl _) _) ⟨⟨_, rfl, heap_alloc_new _ _⟩, fun _ b hb => b2_ hb⟩
   · have h52 : z_ a 52 _ := hd 7
     obtain ⟨q, h54, hq⟩ : ∃ q, a.tmps[(54 : Nat)]?.getD undef = sl 1 q ∧ wr.heap[q]? = some (.cells #[.string ID] 9 (0, 0)) := hd 9
     refine ca_ 52 54 40 9 _ 1 16 rfl Tryz.underlying40 nf_ rfl (by omega) q 1 [.string ID] h52 h54 hq rfl (by simp [Value.oneCell']) (by omega) ?_
     intro cap w' ho hb'
     exact ⟨⟨_, cap, rfl, ap_ ho hb.size⟩, fun h => by cases h⟩
   · exact gp_ (by simp [execOp, hf5, go_sem])
 · intro fv w4 hb4 hs hn hne
   obtain ⟨ai, aci, g50, howi⟩ : ∃ g cap, fv 50 = .slice (some ⟨g, 0, none⟩) 1 cap ∧ w4.ownsRow U.heap.size 52 26 (.slice (some ⟨g, 0, none⟩) 1 cap) 1 (aa_ B).toList := hs 5 (by simp)
   obtain ⟨ad, acd, g55, howd⟩ : ∃ g cap, fv 55 = .slice (some ⟨g, 0, none⟩) 1 cap ∧ w4.ownsRow U.heap.size 9 1 (.slice (some ⟨g, 0, none⟩) 1 cap) 1 [.string ID] := hs 10 (by simp)
   rw [facv hs [45, 46, 47, 48, 49, 50, 51, 52, 53, 54, 55, 56] (by kernel_rfl)]
   simp only [actG, Act.put, List.drop, List.length, g50, g55, List.setIfInBounds_toArray, List.set_cons_zero, List.set_cons_succ]
   clear hs hn hne g50 g55
   have x5 := at_b hb4 HU.out.2.2.1
   have x4 := at_b hb4 HU.out.2.1
   have xm := ai_ HU.out.2.2.2.2 hb4
   have xB := HU.out.1.trans (hb4.mono HU.out.1.size)
   have c2 := ab_ x5 2 rfl; have f2 := ag_ x5 2; have c3 := ab_ x5 3 rfl; have f3 := ag_ x5 3
   have lx5 := lt_of_block x5
   have lU4 := hb4.size
   have li4 := ah_ howi
   have ld4 := ah_ howd
   have HX := h6_ xB x4 x5 xm howi howd
   clear hb4 x5 x4 xm xB howi howd u5 u7 HU
   go_upto_region 8 with fail
   refine ac_ fun Y hY => ?_
   obtain ⟨xB, x4, x5, xm, howi, howd⟩ := HX.out
   have yo : Only (· = w.heap.size + 1) w4 Y := by rw [← hY]; exact ((Only.refl (· = w.heap.size + 1) w4).setCell _ _ (.inl rfl)).setCell _ _ (.inl rfl)
   have y5 : Y.heap[w.heap.size + 1]? = some (.cells [.slice (some ⟨am, 0, none⟩) 1 ac, .slice none 0 0, .slice (some ⟨ai, 0, none⟩) 1 aci, .slice (some ⟨ad, 0, none⟩) 1 acd, .slice none 0 0].toArray 139 (0, 0)) := by rw [← hY]; exact aj_ (aj_ x5 2 _) 3 _
   have y4 := yo.kept x4 (by omega)
   have ym := ao_ xm yo (by omega)
   have yi := ao_ howi yo (by omega)
   have yd := ao_ howd yo (by omega)
   have yB : Below w.heap.size w Y := ((Only.of_below_le xB (fun k _ h => h) : Only (fun b => w.heap.size ≤ b) w w4).then yo (by intro k _ h; omega)).below (Nat.le_refl _) (fun k h => h)
   have lY := yo.size
   have HY := h6_ yB y4 y5 ym yi yd
   have ly5 := lt_of_block y5
   clear hY yo y4 y5 ym yi yd yB xB x4 x5 xm howi howd HX c2 f2 c3 f3 li4 ld4
   go_wp2
   rw [rounds_succ]
   go_wp2_with fail
   refine wp_loop_rounds 1 ?_
   rw [rounds_succ]
   go_wp2_with fail
   go_at_call 81
   obtain ⟨j0, hj, hy0, hy1, hy2⟩ := info_parts u8_
   have hb5 := HY.out.1
   refine (ty_ p s b l _ _ ((hb5.block _ lp).trans HH.out.1.head)).mono ?_
   rintro e wz ⟨rfl, hwz⟩
   rw [hwz]
   clear hwz wz
   go_wp2_with fail
   go_at_call 82
   refine (s5_ s gp cap (twoP b1 b2 D) _ (by show 2 ≤ 4096; decide) (HH.out.1.space.below hb5)).mono ?_
   rintro e c0 ⟨hbc, vr, rfl, hownr⟩
   obtain ⟨gr, cr, rfl⟩ : ∃ gr cr, vr = .slice (some ⟨gr, 0, none⟩) 2 cr := by
    rcases hownr.2 with ⟨_, h⟩ | ⟨g, cap, _, h, _⟩
    · cases h
    · exact ⟨g, cap, h⟩
   have hra : ∀ W, Only (fun x => x = w.heap.size + 1 ∨ c0.heap.size ≤ x) c0 W → W.rangeAt gr 0 [.int .i64 512, .int .i64 256, .int .i64 0, .int .i64 0, .int .i64 0] := fun W hb j u hj => by
    have h1 := row_cell hownr j (u := u) (by
     have : j < 5 := (List.getElem?_eq_some_iff.1 hj).1
     rw [← hj]
     show (eu_ (twoP b1 b2 D))[j]? = _
     match j, this with
     | 0, _ | 1, _ | 2, _ | 3, _ | 4, _ => rfl)
    rw [Nat.zero_add]
    exact (hb.cell (ah_ hownr).2.1 (by have := ah_ hownr; omega)).trans h1.1
   have hrb : ∀ W, Only (fun x => x = w.heap.size + 1 ∨ c0.heap.size ≤ x) c0 W → W.rangeAt gr 5 [.int .i64 1024, .int .i64 1024, .int .i64 2, .int .i64 0, .int .i64 0] := fun W hb j u hj => by
    have h1 := row_cell hownr (5 + j) (u := u) (by
     have : j < 5 := (List.getElem?_eq_some_iff.1 hj).1
     rw [← hj]
     show (eu_ (twoP b1 b2 D))[5 + j]? = _
     match j, this with
     | 0, _ | 1, _ | 2, _ | 3, _ | 4, _ => rfl)
    exact (hb.cell (ah_ hownr).2.1 (by have := ah_ hownr; omega)).trans h1.1
   have HR := h2_ hra hrb
   have k4 := at_b hbc HY.out.2.1
   have k5 := at_b hbc HY.out.2.2.1
   obtain ⟨A0, hA0⟩ : ∃ A, A = (⟨twoL.toArray⟩ : ByteArray) := ⟨_, rfl⟩
   obtain ⟨A1, hA1⟩ : ∃ A, A = (⟨D.toArray⟩ : ByteArray) := ⟨_, rfl⟩
   have e0 : (⟨(gj_ ((twoP b1 b2 D)[0]'(by show 0 < 2; omega)) 512 256).toArray⟩ : ByteArray) = A0 := by rw [hA0]; show (⟨(gj_ (fm_ twoL b1) 512 256).toArray⟩ : ByteArray) = _; unfold gj_; rw [k5_]; rfl
   have e1 : (⟨(gj_ ((twoP b1 b2 D)[1]'(by show 1 < 2; omega)) 1024 1024).toArray⟩ : ByteArray) = A1 := by rw [hA1]; show (⟨((D.drop 0).take 1024).toArray⟩ : ByteArray) = _; rw [List.drop_zero, List.take_of_length_le (by omega)]
   have HA0 := h1_ e0
   have HA1 := h1_ e1
   have HAE := h2_ hA0 hA1
   have lc0 := hbc.size
   have HCY := h1_ hbc
   have HC := h5_ (Only.refl (fun x => x = w.heap.size + 1 ∨ c0.heap.size ≤ x) c0) (hb5.trans (hbc.mono hb5.size)) k4 k5 trivial
   have lk5 := lt_of_block k5
   clear hbc hownr hra hrb k4 k5 e0 e1 hA0 hA1 hb5
   go_wp2_with fail
   refine wp_loop_rounds 3 ?_
   rw [rounds_succ]
   go_upto_region 17 with (first
    | (refine wpList_load_mid rfl 173 (.tmp 85) rfl gr 0 rfl [.int .i64 512, .int .i64 256, .int .i64 0, .int .i64 0, .int .i64 0] _ (HR.out.1 _ HC.out.1) Tryz.underlying173 rfl (by kernel_rfl) ?_)
    | ((with_reducible refine ad_ ?_); refine wpList_store_row rfl 173 _ _ rfl _ _ rfl rfl _ _ (heap_alloc_new _ _) (by kernel_rfl) rfl (by simp [Value.oneCell']) ?_; (try simp only [World.setRow_alloc_new])))
   refine ac_ fun P0 hP => ?_
   have pB : Below c0.heap.size c0 P0 := by rw [← hP]; go_grown
   have p12 : P0.heap[c0.heap.size]? = some (.cells #[.int .i64 512, .int .i64 256, .int .i64 0, .int .i64 0, .int .i64 0] 173 (0, 0)) := by rw [← hP]; exact heap_alloc_new _ _
   have d0 := al_ p12 0 rfl; have d1 := al_ p12 1 rfl
   have lP := lt_of_block p12
   have HP := h2_ pB p12
   have bw : Below w.heap.size w P0 := HC.out.2.1.trans (pB.mono HC.out.2.1.size)
   have hsp : ∀ m, Calls Tryz.prog 81 #[.pointer (some ⟨p, 0, none⟩)] (ext P0 m) fun e w'' => e = .returned (.pointer (some ⟨s, 0, none⟩)) ∧ ∃ m', w'' = ext P0 m' := fun m =>
    (ty_ p s b l _ _ ((i5_ _ m _ (Nat.lt_of_lt_of_le lp bw.size)).trans ((bw.block _ lp).trans HH.out.1.head))).mono fun e w' ⟨he, hw⟩ => ⟨he, m, hw⟩
   have hrd : ∀ m, Calls Tryz.prog 83 #[.pointer (some ⟨s, 0, none⟩), .int .i64 512, .int .i64 256] (ext P0 m) fun e w'' => e = .returned (.tuple #[.string A0, .int .i64 0]) ∧ ∃ m', w'' = ext P0 m' := fun m => c5_ (by
    have h1 := oz_ s _ (twoP b1 b2 D) 512 256 _ (f7_ b1 b2 D) ((HH.out.1.space.below bw).below (cr_ P0 m)) 0 (m8_ (by omega) (by omega)) (by show (512 : Int) - 512 + 256 ≤ 256; omega) (by omega)
    rw [show (⟨(gj_ ((twoP b1 b2 D)[0]'(by show 0 < 2; omega)) 512 256).toArray⟩ : ByteArray) = A0 from HA0.out] at h1
    exact h1.mono fun e w' ⟨hb, he⟩ => ⟨he, hb⟩)
   have HSP := h2_ hsp hrd
   clear hP pB p12 hsp hrd
   have HBW := h1_ bw
   clear bw
   go_wp2_with fail
   simp only [Act.put, List.setIfInBounds_toArray, List.set_cons_zero, List.set_cons_succ]
   refine co_ (by kernel_rfl) (by kernel_rfl) ?_
   repeat (go_big_quiet_step ((first | (go_at_call 81; exact HSP.out.1 _) | (go_at_call 83; exact HSP.out.2 _))))
   refine bn_ ?_
   intro q0 hq
   have qo := (HC.out.1.call HP.out.1).call hq
   have qw := HBW.out.trans (hq.mono HBW.out.size)
   have lcP := HP.out.1.size
   have q4 := (hq.block _ (Nat.lt_of_lt_of_le (lt_of_block HC.out.2.2.1) lcP)).trans (at_b HP.out.1 HC.out.2.2.1)
   have q5 := (hq.block _ (Nat.lt_of_lt_of_le (lt_of_block HC.out.2.2.2.1) lcP)).trans (at_b HP.out.1 HC.out.2.2.2.1)
   have q12 := at_b hq HP.out.2
   have HQ := h6_ qo qw q4 q5 q12 (trivial)
   have d0 := al_ q12 0 rfl
   have c4 := ab_ q5 4 rfl
   have lq12 := lt_of_block q12
   have lq5 := lt_of_block q5
   have lqc := qo.size
   clear qo qw q4 q5 q12 hq HBW HSP HP HC d1
   go_wp2_with (at_builtin; refine wpList_append_lies _ rfl _ _ _ rfl c0.heap.size 65 j0 (.agg #[.int .i64 0, .string ⟨#[]⟩]) 2 24 Tryz.underlying25 hj hy0 hy1 hy2 rfl (by omega) _ 0 _ rfl (World.ownsRow_nil _ c0.heap.size 65 2) ⟨q0.heap.size, 0, none⟩ 1 1 [.int .i64 512, .string A0] rfl rfl ?n1 ?n2 (by omega) ?n3 ?n4 ?n5 (q0.heap.size + 1) (by simp) ?_)
   case n1 => exact World.news_of_block (cs := #[.int .i64 512, .string A0]) (t := 65) (fr := (0, 0)) (heap_alloc_new q0 _)
   case n2 => simp [Value.oneCell']
   case n3 => unfold maxLen; omega
   case n4 => omega
   case n5 => simp; omega
   intro ak0 ack0 z0 hown hgrow hat hlt
   have zo : Only (fun x => x = w.heap.size + 1 ∨ c0.heap.size ≤ x) c0 z0 := (HQ.out.1.alloc _).trans (k7_ hgrow (fun x hx h => by simp [Value.ownBlock] at h))
   have zw : Below w.heap.size w z0 := (HQ.out.2.1.alloc HQ.out.2.1.size _).grown hgrow (by have := HQ.out.2.1.size; simp; omega) (fun q hq' => by simp [Value.ownBlock] at hq')
   have z5 : z0.heap[w.heap.size + 1]? = some (.cells [.slice (some ⟨am, 0, none⟩) 1 ac, .slice none 0 0, .slice (some ⟨ai, 0, none⟩) 1 aci, .slice (some ⟨ad, 0, none⟩) 1 acd, .slice none 0 0].toArray 139 (0, 0)) := (gi_ hgrow (by simp; omega) (by simp [Value.ownBlock])).trans (ae_ HQ.out.2.2.2.1)
   have z4 : z0.heap[w.heap.size]? = some (.cells #[.slice none 0 0, .slice none 0 0, .slice none 0 0, .slice none 0 0, .slice none 0 0] 139 (0, 0)) := (gi_ hgrow (by simp; omega) (by simp [Value.ownBlock])).trans (ae_ HQ.out.2.2.1)
   have c4 := ab_ z5 4 rfl; have f4 := ag_ z5 4
   have lz5 := lt_of_block z5
   try simp only [Nat.zero_add, Nat.reduceAdd, List.nil_append, List.cons_append] at hown
   have HZ := h5_ zo zw z5 z4 hown
   clear hown hgrow hat hlt zo zw z5 z4 HQ d0
   go_upto_region 20 with fail
   refine ac_ fun c1 hU => ?_
   have uo : Only (· = w.heap.size + 1) z0 c1 := by rw [← hU]; exact (Only.refl (· = w.heap.size + 1) z0).setCell _ _ (.inl rfl)
   have u5 : c1.heap[w.heap.size + 1]? = some (.cells [.slice (some ⟨am, 0, none⟩) 1 ac, .slice none 0 0, .slice (some ⟨ai, 0, none⟩) 1 aci, .slice (some ⟨ad, 0, none⟩) 1 acd, .slice (some ⟨ak0, 0, none⟩) 1 ack0].toArray 139 (0, 0)) := by rw [← hU]; exact aj_ HZ.out.2.2.1 4 _
   have u4 := uo.kept HZ.out.2.2.2.1 (by omega)
   have lrow := ah_ HZ.out.2.2.2.2
   have ur := ao_ HZ.out.2.2.2.2 uo (by omega)
   have uB : Below w.heap.size w c1 := ((Only.of_below_le HZ.out.2.1 (fun k _ h => h) : Only (fun b => w.heap.size ≤ b) w z0).then uo (by intro k _ h; omega)).below (Nat.le_refl _) (fun k h => h)
   have uoo := HZ.out.1.trans (uo.mono (fun k _ h => .inl h))
   have HC := h5_ uoo uB u4 u5 ur
   have lk5 := lt_of_block u5
   clear hU uo u5 u4 ur uB uoo HZ c4 f4 lrow
   go_wp2
   rw [rounds_succ]
   go_upto_region 17 with (first
    | (refine wpList_load_mid rfl 173 (.tmp 85) rfl gr 5 rfl [.int .i64 1024, .int .i64 1024, .int .i64 2, .int .i64 0, .int .i64 0] _ (HR.out.2 _ HC.out.1) Tryz.underlying173 rfl (by kernel_rfl) ?_)
    | ((with_reducible refine ad_ ?_); refine wpList_store_row rfl 173 _ _ rfl _ _ rfl rfl _ _ (heap_alloc_new _ _) (by kernel_rfl) rfl (by simp [Value.oneCell']) ?_; (try simp only [World.setRow_alloc_new])))
   refine ac_ fun P1 hP => ?_
   have pB : Below c1.heap.size c1 P1 := by rw [← hP]; go_grown
   have p12 : P1.heap[c1.heap.size]? = some (.cells #[.int .i64 1024, .int .i64 1024, .int .i64 2, .int .i64 0, .int .i64 0] 173 (0, 0)) := by rw [← hP]; exact heap_alloc_new _ _
   have d0 := al_ p12 0 rfl; have d1 := al_ p12 1 rfl
   have lP := lt_of_block p12
   have HP := h2_ pB p12
   have bw : Below w.heap.size w P1 := HC.out.2.1.trans (pB.mono HC.out.2.1.size)
   have hsp : ∀ m, Calls Tryz.prog 81 #[.pointer (some ⟨p, 0, none⟩)] (ext P1 m) fun e w'' => e = .returned (.pointer (some ⟨s, 0, none⟩)) ∧ ∃ m', w'' = ext P1 m' := fun m =>
    (ty_ p s b l _ _ ((i5_ _ m _ (Nat.lt_of_lt_of_le lp bw.size)).trans ((bw.block _ lp).trans HH.out.1.head))).mono fun e w' ⟨he, hw⟩ => ⟨he, m, hw⟩
   have hrd : ∀ m, Calls Tryz.prog 83 #[.pointer (some ⟨s, 0, none⟩), .int .i64 1024, .int .i64 1024] (ext P1 m) fun e w'' => e = .returned (.tuple #[.string A1, .int .i64 0]) ∧ ∃ m', w'' = ext P1 m' := fun m => c5_ (by
    have h1 := oz_ s _ (twoP b1 b2 D) 1024 1024 _ (f7_ b1 b2 D) ((HH.out.1.space.below bw).below (cr_ P1 m)) 1 (ic_ (by omega)) (by show (1024 : Int) - 1024 + 1024 ≤ 1024; omega) (by omega)
    rw [show (⟨(gj_ ((twoP b1 b2 D)[1]'(by show 1 < 2; omega)) 1024 1024).toArray⟩ : ByteArray) = A1 from HA1.out] at h1
    exact h1.mono fun e w' ⟨hb, he⟩ => ⟨he, hb⟩)
   have HSP := h2_ hsp hrd
   clear hP pB p12 hsp hrd
   have HBW := h1_ bw
   clear bw
   go_wp2_with fail
   simp only [Act.put, List.setIfInBounds_toArray, List.set_cons_zero, List.set_cons_succ]
   refine co_ (by kernel_rfl) (by kernel_rfl) ?_
   repeat (go_big_quiet_step ((first | (go_at_call 81; exact HSP.out.1 _) | (go_at_call 83; exact HSP.out.2 _))))
   refine bn_ ?_
   intro q1 hq
   have qo := (HC.out.1.call HP.out.1).call hq
   have qw := HBW.out.trans (hq.mono HBW.out.size)
   have lcP := HP.out.1.size
   have q4 := (hq.block _ (Nat.lt_of_lt_of_le (lt_of_block HC.out.2.2.1) lcP)).trans (at_b HP.out.1 HC.out.2.2.1)
   have q5 := (hq.block _ (Nat.lt_of_lt_of_le (lt_of_block HC.out.2.2.2.1) lcP)).trans (at_b HP.out.1 HC.out.2.2.2.1)
   have q12 := at_b hq HP.out.2
   have HQ := h6_ qo qw q4 q5 q12 (ai_ (ai_ HC.out.2.2.2.2 HP.out.1) hq)
   have d0 := al_ q12 0 rfl
   have c4 := ab_ q5 4 rfl
   have lq12 := lt_of_block q12
   have lq5 := lt_of_block q5
   have lqc := qo.size
   clear qo qw q4 q5 q12 hq HBW HSP HP HC d1
   go_wp2_with (at_builtin; refine wpList_append_lies _ rfl _ _ _ rfl c0.heap.size 65 j0 (.agg #[.int .i64 0, .string ⟨#[]⟩]) 2 24 Tryz.underlying25 hj hy0 hy1 hy2 rfl (by omega) _ 1 _ rfl (HQ.out.2.2.2.2.2.alloc _) ⟨q1.heap.size, 0, none⟩ 1 1 [.int .i64 1024, .string A1] rfl rfl ?n1 ?n2 (by omega) ?n3 ?n4 ?n5 (q1.heap.size + 1) (by simp) ?_)
   case n1 => exact World.news_of_block (cs := #[.int .i64 1024, .string A1]) (t := 65) (fr := (0, 0)) (heap_alloc_new q1 _)
   case n2 => simp [Value.oneCell']
   case n3 => unfold maxLen; omega
   case n4 => omega
   case n5 => simp; omega
   intro ak1 ack1 z1 hown hgrow hat hlt
   have zo : Only (fun x => x = w.heap.size + 1 ∨ c0.heap.size ≤ x) c0 z1 := (HQ.out.1.alloc _).trans (k7_ hgrow (fun x hx h => by
    simp only [Value.ownBlock, Option.some.injEq] at h
    subst h
    exact .inr (ah_ HQ.out.2.2.2.2.2).1))
   have zw : Below w.heap.size w z1 := (HQ.out.2.1.alloc HQ.out.2.1.size _).grown hgrow (by have := HQ.out.2.1.size; simp; omega) (fun q hq' => by simp only [Value.ownBlock, Option.some.injEq] at hq'; subst hq'; have := (ah_ HQ.out.2.2.2.2.2).1; omega)
   have z5 : z1.heap[w.heap.size + 1]? = some (.cells [.slice (some ⟨am, 0, none⟩) 1 ac, .slice none 0 0, .slice (some ⟨ai, 0, none⟩) 1 aci, .slice (some ⟨ad, 0, none⟩) 1 acd, .slice (some ⟨ak0, 0, none⟩) 1 ack0].toArray 139 (0, 0)) := (gi_ hgrow (by simp; omega) (by simp only [Value.ownBlock, ne_eq, Option.some.injEq]; have := (ah_ HQ.out.2.2.2.2.2).1; omega)).trans (ae_ HQ.out.2.2.2.1)
   have z4 : z1.heap[w.heap.size]? = some (.cells #[.slice none 0 0, .slice none 0 0, .slice none 0 0, .slice none 0 0, .slice none 0 0] 139 (0, 0)) := (gi_ hgrow (by simp; omega) (by simp only [Value.ownBlock, ne_eq, Option.some.injEq]; have := (ah_ HQ.out.2.2.2.2.2).1; omega)).trans (ae_ HQ.out.2.2.1)
   have c4 := ab_ z5 4 rfl; have f4 := ag_ z5 4
   have lz5 := lt_of_block z5
   try simp only [Nat.zero_add, Nat.reduceAdd, List.nil_append, List.cons_append] at hown
   have HZ := h5_ zo zw z5 z4 hown
   clear hown hgrow hat hlt zo zw z5 z4 HQ d0
   go_upto_region 20 with fail
   refine ac_ fun c2 hU => ?_
   have uo : Only (· = w.heap.size + 1) z1 c2 := by rw [← hU]; exact (Only.refl (· = w.heap.size + 1) z1).setCell _ _ (.inl rfl)
   have u5 : c2.heap[w.heap.size + 1]? = some (.cells [.slice (some ⟨am, 0, none⟩) 1 ac, .slice none 0 0, .slice (some ⟨ai, 0, none⟩) 1 aci, .slice (some ⟨ad, 0, none⟩) 1 acd, .slice (some ⟨ak1, 0, none⟩) 2 ack1].toArray 139 (0, 0)) := by rw [← hU]; exact aj_ HZ.out.2.2.1 4 _
   have u4 := uo.kept HZ.out.2.2.2.1 (by omega)
   have lrow := ah_ HZ.out.2.2.2.2
   have ur := ao_ HZ.out.2.2.2.2 uo (by omega)
   have uB : Below w.heap.size w c2 := ((Only.of_below_le HZ.out.2.1 (fun k _ h => h) : Only (fun b => w.heap.size ≤ b) w z1).then uo (by intro k _ h; omega)).below (Nat.le_refl _) (fun k h => h)
   have uoo := HZ.out.1.trans (uo.mono (fun k _ h => .inl h))
   have HC := h5_ uoo uB u4 u5 ur
   have lk5 := lt_of_block u5
   clear hU uo u5 u4 ur uB uoo HZ c4 f4 lrow
   go_wp2
   rw [rounds_succ]
   go_wp2_with (first
    | (refine wpList_load_row rfl 139 (.tmp 5) rfl (w.heap.size + 1) rfl 139 #[.slice (some ⟨am, 0, none⟩) 1 ac, .slice none 0 0, .slice (some ⟨ai, 0, none⟩) 1 aci, .slice (some ⟨ad, 0, none⟩) 1 acd, .slice (some ⟨ak1, 0, none⟩) 2 ack1] (0, 0) _ HC.out.2.2.2.1 Tryz.underlying139 rfl (by kernel_rfl) ?_)
    | ((with_reducible refine ad_ ?_); refine wpList_store_row rfl 139 _ _ rfl _ _ rfl rfl _ _ HC.out.2.2.1 (by kernel_rfl) rfl (by simp [Value.oneCell']) ?_))
   obtain ⟨co, cB, c4, c5, cr⟩ := HC.out
   have o1 : Only (· = w.heap.size) c2 (c2.setRow w.heap.size #[.slice (some ⟨am, 0, none⟩) 1 ac, .slice none 0 0, .slice (some ⟨ai, 0, none⟩) 1 aci, .slice (some ⟨ad, 0, none⟩) 1 acd, .slice (some ⟨ak1, 0, none⟩) 2 ack1]) := (Only.refl (· = w.heap.size) c2).setRow _ _ (.inl rfl)
   refine bodyPost_ret (da_ rfl _ _ w.heap.size 139 #[.slice (some ⟨am, 0, none⟩) 1 ac, .slice none 0 0, .slice (some ⟨ai, 0, none⟩) 1 aci, .slice (some ⟨ad, 0, none⟩) 1 acd, .slice (some ⟨ak1, 0, none⟩) 2 ack1] (0, 0) _ rfl (setRow_heap _ _ _ _ _ _ c4) Tryz.underlying139 rfl (by kernel_rfl)) rfl ?_
   obtain ⟨yB, y4, y5, ym, yi, yd⟩ := HY.out
   have yo : Only (fun x => x = w.heap.size + 1 ∨ x = w.heap.size) Y (c2.setRow w.heap.size #[.slice (some ⟨am, 0, none⟩) 1 ac, .slice none 0 0, .slice (some ⟨ai, 0, none⟩) 1 aci, .slice (some ⟨ad, 0, none⟩) 1 acd, .slice (some ⟨ak1, 0, none⟩) 2 ack1]) := ((Only.of_below HCY.out).trans (co.mono (T := fun x => x = w.heap.size + 1 ∨ x = w.heap.size ∨ Y.heap.size ≤ x) (fun k hk h => by rcases h with h | h; exact .inl h; exact .inr (.inr (by omega))))|>.trans (o1.mono (fun k _ h => .inr (.inl h)))).mono (fun k hk h => by rcases h with h | h | h; exact .inl h; exact .inr h; omega)
   have zm := ao_ ym yo (by have := ah_ ym; omega)
   have zi := ao_ yi yo (by have := ah_ yi; omega)
   have zd := ao_ yd yo (by have := ah_ yd; omega)
   have zr := ao_ cr o1 (by have := ah_ cr; omega)
   have zB : Below w.heap.size w (c2.setRow w.heap.size #[.slice (some ⟨am, 0, none⟩) 1 ac, .slice none 0 0, .slice (some ⟨ai, 0, none⟩) 1 aci, .slice (some ⟨ad, 0, none⟩) 1 acd, .slice (some ⟨ak1, 0, none⟩) 2 ack1]) := below_setRow cB (Nat.le_refl _) _
   refine ⟨am, ac, ai, aci, ad, acd, ak1, ack1, rfl, ⟨?_, ?_, ?_, ?_, (ah_ zm).2.1, (ah_ zi).2.1, (ah_ zd).2.1, (ah_ zr).2.1, HH.out.2.2.2.1.below zB⟩, ?_, zB⟩
   · exact row_range zm
   · exact row_range zi
   · exact (row_cell zd 0 rfl).1
   · rw [← HAE.out.1, ← HAE.out.2]
     exact row_range zr
   · have a1 := (ah_ zm).1
     have a2 := (ah_ zi).1
     have a3 := (ah_ zd).1
     have a4 := (ah_ zr).1
     have a5 := HCY.out.size
     refine ⟨?_, ?_, ?_, ?_⟩ <;> omega
end Two
namespace Two
open Go.RowKit
attribute [local go_sem] ak_ af_
attribute [local go_sem] dy_ d4_ ds_ eb_ d5_ d6_ ec_ ed_ ee_ ef_ db_ dc_ dd_ de_ df_ dg_ c1_ c2_ c3_ dh_ di_ c4_ dj_ dk_ dl_ dm_
attribute [local irreducible] aa_ zImg cm_ exC
def ng_ (gm cm gc cc : Nat) : Array Value := gg_ (some ⟨gm, 0, none⟩) 1 cm (.slice none 0 0) (.slice none 0 0) (some ⟨gc, 0, none⟩) 2 cc
theorem nh_ (gm cm gi ci gd cd gc cc : Nat) (B : IB) (ID : ByteArray) (C S : List UInt8) (x : Int) (hx : x < 512) (w : World) (h : ViewAt B ID C S gm gi gd gc w) :
 Calls Tryz.prog 323 #[.agg (vOne gm cm gi ci gd cd gc cc), .int .i64 x] w fun e w' => e = .returned (.tuple #[.agg cm_, .bool false]) ∧ Below w.heap.size w w' := by
 have HH := h1_ h
 clear h
 go_enter Tryz.func323, Tryz.ntmps323
 unfold vOne gg_
 go_upto_region 1 with fail
 refine ac_ fun V hV => ?_
 have vB : Below w.heap.size w V := by rw [← hV]; go_grown
 have v0 : V.heap[w.heap.size]? = some (.cells #[.slice (some ⟨gm, 0, none⟩) 1 cm, .slice none 0 0, .slice (some ⟨gi, 0, none⟩) 1 ci, .slice (some ⟨gd, 0, none⟩) 1 cd, .slice (some ⟨gc, 0, none⟩) 2 cc] 139 (0, 0)) := by rw [← hV]; exact ae_ (heap_alloc_new _ _)
 have v4 : ∃ z : Array Value, z.size = cm_.size ∧ V.heap[w.heap.size + 1]? = some (.cells z 476 (0, 0)) := by rw [← hV]; exact ⟨_, by unfold cm_; rfl, block_at (by simp)⟩
 obtain ⟨z, hz, v4⟩ := v4
 have HV := h4_ vB v0 v4 hz
 have lV := lt_of_block v4
 clear hV vB v0 v4 hz
 go_wp2_with (refine wpList_load_row rfl 139 (.tmp 2) rfl w.heap.size rfl 139 #[.slice (some ⟨gm, 0, none⟩) 1 cm, .slice none 0 0, .slice (some ⟨gi, 0, none⟩) 1 ci, .slice (some ⟨gd, 0, none⟩) 1 cd, .slice (some ⟨gc, 0, none⟩) 2 cc] (0, 0) _ HV.out.2.1 Tryz.underlying139 rfl (by kernel_rfl) ?_)
 refine (vold (some ⟨gm, 0, none⟩) 1 cm (some ⟨gi, 0, none⟩) 1 ci (some ⟨gd, 0, none⟩) 1 cd (some ⟨gc, 0, none⟩) 2 cc x V).mono ?_
 rintro e w1 ⟨rfl, hb1⟩
 have b1 := HV.out.1.trans (hb1.mono HV.out.1.size)
 have k0 := at_b hb1 HV.out.2.1
 have k4 := at_b hb1 HV.out.2.2.1
 have lw1 := lt_of_block k4
 have H1 := h3_ b1 k0 k4
 clear hb1 b1 k0 k4
 go_upto_region 2 with ((with_reducible refine ad_ ?_); refine wpList_store_row rfl 476 _ _ rfl _ _ rfl rfl _ _ (heap_alloc_new _ _) cn_ (by unfold cm_; rfl) ek_ ?_; (try simp only [World.setRow_alloc_new]))
 refine ac_ fun X hX => ?_
 have xB : Below w1.heap.size w1 X := by rw [← hX]; go_grown
 have b2 := H1.out.1.trans (xB.mono H1.out.1.size)
 have k0 := at_b xB H1.out.2.1
 have k4 := at_b xB H1.out.2.2
 have c0 := al_ k0 0 rfl
 have lX := lt_of_block k4
 have hv := HH.out.below b2
 have H2 := h4_ b2 k0 k4 hv
 clear hX xB b2 k0 k4 hv
 go_wp2
 refine wp_loop_rounds 2 ?_
 rw [rounds_succ]
 go_upto_region 7 with (first
  | (refine wpList_load_mid rfl 84 (.tmp 26) rfl gm 0 rfl [.string labS, .string ID, .int .i64 512, .int .i64 256, .bool false] _ H2.out.2.2.2.mods Tryz.underlying84 rfl (lv_ ID) ?_)
  | ((with_reducible refine ad_ ?_); refine sr_ rfl rfl (h := ?_); (try simp only [World.setRow_alloc_new])))
 refine ac_ fun Y hY => ?_
 have yB : Below X.heap.size X Y := by rw [← hY]; go_grown
 have y9 : Y.heap[X.heap.size]? = some (.cells #[.string labS, .string ID, .int .i64 512, .int .i64 256, .bool false] 84 (0, 0)) := by rw [← hY]; exact heap_alloc_new _ _
 have b3 := H2.out.1.trans (yB.mono H2.out.1.size)
 have k0 := at_b yB H2.out.2.1
 have k4 := at_b yB H2.out.2.2.1
 have d1 := al_ y9 1 rfl; have d2 := al_ y9 2 rfl
 have lY := lt_of_block y9
 have H3 := h5_ b3 k0 k4 (H2.out.2.2.2.below yB) y9
 have lk0 := lt_of_block k0
 have lk4 := lt_of_block k4
 clear hY yB y9 b3 k0 k4 H2 c0
 go_wp2
 rw [rounds_succ]
 go_wp2_with (first
  | (refine cf_ rfl (jz_ _ _ _ rfl) ?_)
  | ((with_reducible refine ad_ ?_); refine wpList_store_row rfl 476 _ _ rfl _ _ rfl rfl _ _ H3.out.2.2.1 cn_ HV.out.2.2.2 ek_ ?_))
 obtain ⟨e4, hb⟩ := ha_ (cs := cm_) H3.out.1 H3.out.2.2.1 (Nat.le_succ _) (Nat.le_refl _)
 exact bodyPost_ret (a3_ rfl _ _ (w.heap.size + 1) _ _ _ _ rfl e4 Tryz.underlying476 rfl cn_) rfl ⟨rfl, hb⟩
theorem l2_ (gm cm gc cc : Nat) (ID : ByteArray) (x : Int) (hx1 : 512 ≤ x) (w : World) (h : w.rangeAt gm 0 [.string labS, .string ID, .int .i64 512, .int .i64 256, .bool false]) (hgm : gm < w.heap.size) :
 Calls Tryz.prog 323 #[.agg (ng_ gm cm gc cc), .int .i64 x] w fun e w' => e = .returned (.tuple #[.agg cm_, .bool false]) ∧ Below w.heap.size w w' := by
 have HH := h1_ h
 clear h
 go_enter Tryz.func323, Tryz.ntmps323
 unfold ng_ gg_
 go_upto_region 1 with fail
 refine ac_ fun V hV => ?_
 have vB : Below w.heap.size w V := by rw [← hV]; go_grown
 have v0 : V.heap[w.heap.size]? = some (.cells #[.slice (some ⟨gm, 0, none⟩) 1 cm, .slice none 0 0, .slice none 0 0, .slice none 0 0, .slice (some ⟨gc, 0, none⟩) 2 cc] 139 (0, 0)) := by rw [← hV]; exact ae_ (heap_alloc_new _ _)
 have v4 : ∃ z : Array Value, z.size = cm_.size ∧ V.heap[w.heap.size + 1]? = some (.cells z 476 (0, 0)) := by rw [← hV]; exact ⟨_, by unfold cm_; rfl, block_at (by simp)⟩
 obtain ⟨z, hz, v4⟩ := v4
 have HV := h4_ vB v0 v4 hz
 have lV := lt_of_block v4
 clear hV vB v0 v4 hz
 go_wp2_with (refine wpList_load_row rfl 139 (.tmp 2) rfl w.heap.size rfl 139 #[.slice (some ⟨gm, 0, none⟩) 1 cm, .slice none 0 0, .slice none 0 0, .slice none 0 0, .slice (some ⟨gc, 0, none⟩) 2 cc] (0, 0) _ HV.out.2.1 Tryz.underlying139 rfl (by kernel_rfl) ?_)
 refine (vold (some ⟨gm, 0, none⟩) 1 cm none 0 0 none 0 0 (some ⟨gc, 0, none⟩) 2 cc x V).mono ?_
 rintro e w1 ⟨rfl, hb1⟩
 have b1 := HV.out.1.trans (hb1.mono HV.out.1.size)
 have k0 := at_b hb1 HV.out.2.1
 have k4 := at_b hb1 HV.out.2.2.1
 have lw1 := lt_of_block k4
 have H1 := h3_ b1 k0 k4
 clear hb1 b1 k0 k4
 go_upto_region 2 with ((with_reducible refine ad_ ?_); refine wpList_store_row rfl 476 _ _ rfl _ _ rfl rfl _ _ (heap_alloc_new _ _) cn_ (by unfold cm_; rfl) ek_ ?_; (try simp only [World.setRow_alloc_new]))
 refine ac_ fun X hX => ?_
 have xB : Below w1.heap.size w1 X := by rw [← hX]; go_grown
 have b2 := H1.out.1.trans (xB.mono H1.out.1.size)
 have k0 := at_b xB H1.out.2.1
 have k4 := at_b xB H1.out.2.2
 have c0 := al_ k0 0 rfl
 have lX := lt_of_block k4
 have hv := bh_ HH.out hgm b2
 have lgm := Nat.lt_of_lt_of_le hgm b2.size
 have H2 := h4_ b2 k0 k4 hv
 clear hX xB b2 k0 k4 hv
 go_wp2
 refine wp_loop_rounds 2 ?_
 rw [rounds_succ]
 go_upto_region 7 with (first
  | (refine wpList_load_mid rfl 84 (.tmp 26) rfl gm 0 rfl [.string labS, .string ID, .int .i64 512, .int .i64 256, .bool false] _ H2.out.2.2.2 Tryz.underlying84 rfl (lv_ ID) ?_)
  | ((with_reducible refine ad_ ?_); refine sr_ rfl rfl (h := ?_); (try simp only [World.setRow_alloc_new])))
 refine ac_ fun Y hY => ?_
 have yB : Below X.heap.size X Y := by rw [← hY]; go_grown
 have y9 : Y.heap[X.heap.size]? = some (.cells #[.string labS, .string ID, .int .i64 512, .int .i64 256, .bool false] 84 (0, 0)) := by rw [← hY]; exact heap_alloc_new _ _
 have b3 := H2.out.1.trans (yB.mono H2.out.1.size)
 have k0 := at_b yB H2.out.2.1
 have k4 := at_b yB H2.out.2.2.1
 have d1 := al_ y9 1 rfl; have d2 := al_ y9 2 rfl
 have lY := lt_of_block y9
 have H3 := h5_ b3 k0 k4 (bh_ H2.out.2.2.2 lgm yB) y9
 have lk0 := lt_of_block k0
 have lk4 := lt_of_block k4
 clear hY yB y9 b3 k0 k4 H2 c0
 have hx1' : ¬ x < 512 := by omega
 go_wp2_with (refine wpList_load_row rfl 139 (.tmp 2) rfl w.heap.size rfl 139 #[.slice (some ⟨gm, 0, none⟩) 1 cm, .slice none 0 0, .slice none 0 0, .slice none 0 0, .slice (some ⟨gc, 0, none⟩) 2 cc] (0, 0) _ H3.out.2.1 Tryz.underlying139 rfl (by kernel_rfl) ?_)
 refine (pa_ (some ⟨gm, 0, none⟩) 1 cm (some ⟨gc, 0, none⟩) 2 cc ID _).mono ?_
 rintro e w4 ⟨rfl, hb4⟩
 have b4 := H3.out.1.trans (hb4.mono H3.out.1.size)
 have k4 := at_b hb4 H3.out.2.2.1
 have H4 := h2_ b4 k4
 clear hb4 b4 k4 H3 d1 d2
 go_upto_region 9 with ((with_reducible refine ad_ ?_); refine wpList_store_row rfl 52 _ _ rfl _ _ rfl rfl _ _ (heap_alloc_new _ _) jy_ (by unfold zImg; rfl) qm_ ?_; (try simp only [World.setRow_alloc_new]))
 refine ac_ fun Z hZ => ?_
 have zB : Below w4.heap.size w4 Z := by rw [← hZ]; go_grown
 have b5 := H4.out.1.trans (zB.mono H4.out.1.size)
 have k4 := at_b zB H4.out.2
 have lz4 := lt_of_block k4
 have H5 := h2_ b5 k4
 clear hZ zB b5 k4 H4
 go_wp2
 rw [rounds_succ]
 go_wp2_with (first
  | (refine cf_ rfl (jz_ _ _ _ rfl) ?_)
  | ((with_reducible refine ad_ ?_); refine wpList_store_row rfl 476 _ _ rfl _ _ rfl rfl _ _ H5.out.2 cn_ HV.out.2.2.2 ek_ ?_))
 obtain ⟨e4, hb⟩ := ha_ (cs := cm_) H5.out.1 H5.out.2 (Nat.le_succ _) (Nat.le_refl _)
 exact bodyPost_ret (a3_ rfl _ _ (w.heap.size + 1) _ _ _ _ rfl e4 Tryz.underlying476 rfl cn_) rfl ⟨rfl, hb⟩
end Two
namespace Two
open Go.RowKit
attribute [local go_sem] ak_ af_
theorem ex14 (ID : ByteArray) (B : IB) (x : Int) : (exC ID B x)[(14 : Nat)]? = some (.slice none 0 0) := by unfold exC; rfl
theorem ex26 (ID : ByteArray) (B : IB) (x : Int) : (exC ID B x)[(26 : Nat)]? = some (.slice (some ⟨B.gd, 0, none⟩) 1 1) := by unfold exC; rfl
theorem ex28 (ID : ByteArray) (B : IB) (x : Int) : (exC ID B x)[(28 : Nat)]? = some (.int .i64 x) := by unfold exC; rfl
theorem ex0 (ID : ByteArray) (B : IB) (x : Int) : (exC ID B x)[(0 : Nat)]? = some (.int .i64 0) := by unfold exC; rfl
theorem ex1 (ID : ByteArray) (B : IB) (x : Int) : (exC ID B x)[(1 : Nat)]? = some (.string ID) := by unfold exC; rfl
theorem ex29 (ID : ByteArray) (B : IB) (x : Int) : (exC ID B x)[(29 : Nat)]? = some (.bool false) := by unfold exC; rfl
attribute [local irreducible] aa_ zImg cm_ exC
theorem pb_ (n : Int) (w : World) : Calls Tryz.prog 413 #[.slice none 0 0, .int .i64 n] w fun e w' => e = .returned (.int .i64 (-1)) ∧ w' = w := by
 go_enter Tryz.func413, Tryz.ntmps413
 go_wp2
 refine wp_loop_rounds 2 ?_
 rw [rounds_succ]
 go_wp2
 go_ret
 exact ⟨rfl, rfl⟩
theorem l3_ (n : Int) (w : World) : Calls Tryz.prog 346 #[.slice none 0 0, .int .i64 n] w fun e w' => e = .returned (.bool false) ∧ w' = w := by
 go_enter Tryz.func346, Tryz.ntmps346
 go_wp2_with (go_at_call 413; refine (pb_ n _).mono ?_; rintro e wz ⟨rfl, hwz⟩; rw [hwz]; clear hwz wz)
 go_ret
 exact ⟨rfl, rfl⟩
theorem depth1 (q : Nat) (x : Int) (hx1 : 0 ≤ x) (hx2 : x < 80) (w : World) (h : w.cell? ⟨q, 28, none⟩ = some (.int .i64 x)) (hq : q < w.heap.size) :
 Calls Tryz.prog 398 #[.agg #[.int .i64 0, .int .i64 0, .int .i64 80, .int .i64 0], .pointer (some ⟨q, 0, none⟩)] w fun e w' => e = .returned (.bool true) ∧ Below w.heap.size w w' := by
 go_enter Tryz.func398, Tryz.ntmps398
 have e1 : decide ((0 : Int) ≤ x) = true := by simpa using hx1
 have e2 : decide (x < 80) = true := by simpa using hx2
 go_wp2
 go_ret
 exact ⟨rfl, by go_grown⟩
theorem indexD (g q : Nat) (x : Int) (hx1 : 0 ≤ x) (hx2 : x < 80) (w : World) (hd : a5_ w g) (h : w.cell? ⟨q, 28, none⟩ = some (.int .i64 x)) (hq : q < w.heap.size) :
 Calls Tryz.prog 397 #[.slice (some ⟨g, 0, none⟩) 1 1, .func (.func 398) #[] #[.pointer (some ⟨q, 0, none⟩)]] w fun e w' => e = .returned (.int .i64 0) ∧ Below w.heap.size w w' := by
 have c0 := ab_ hd 0 rfl
 have c1 := ab_ hd 1 rfl
 have c2 := ab_ hd 2 rfl
 have c3 := ab_ hd 3 rfl
 have HQ := h1_ h
 clear hd h
 go_enter Tryz.func397, Tryz.ntmps397
 go_wp2
 refine wp_loop_rounds 2 ?_
 rw [rounds_succ]
 go_wp2_with fail
 go_at_call 398
 refine (depth1 q x hx1 hx2 _ HQ.out hq).mono ?_
 rintro e w1 ⟨rfl, hb1⟩
 have H1 := h1_ hb1
 clear hb1 c0 c1 c2 c3
 go_wp2
 go_ret
 exact ⟨rfl, H1.out⟩
theorem vdepth (ID : ByteArray) (B : IB) (x : Int) (hx1 : 0 ≤ x) (hx2 : x < 80) (w : World) (hd : a5_ w B.gd) :
 Calls Tryz.prog 324 #[.agg (exC ID B x)] w fun e w' => e = .returned (.tuple #[.int .i64 0, .bool false, .bool true]) ∧ Below w.heap.size w w' := by
 have HD := h1_ hd
 clear hd
 go_enter Tryz.func324, Tryz.ntmps324
 go_upto_region 1 with fail
 refine ac_ fun V hV => ?_
 have vB : Below w.heap.size w V := by rw [← hV]; go_grown
 have v1 : V.heap[w.heap.size]? = some (.cells (exC ID B x) 476 (0, 0)) := by rw [← hV]; exact heap_alloc_new _ _
 have c14 := al_ v1 14 (ex14 ID B x); have c26 := al_ v1 26 (ex26 ID B x); have c28 := al_ v1 28 (ex28 ID B x)
 have lV := lt_of_block v1
 have HV := h3_ vB c28 (HD.out.below vB)
 clear hV vB v1
 go_wp2_with (go_at_call 346; refine (l3_ x _).mono ?_; rintro e wz ⟨rfl, hwz⟩; rw [hwz]; clear hwz wz)
 go_at_call 397
 refine (indexD B.gd w.heap.size x hx1 hx2 _ HV.out.2.2 HV.out.2.1 lV).mono ?_
 rintro e w1 ⟨rfl, hb1⟩
 have hd1 := HV.out.2.2.below hb1
 have d3 := ab_ hd1 3 rfl
 have ld := lt_of_block hd1
 have H1 := h1_ (HV.out.1.trans (hb1.mono HV.out.1.size))
 clear hb1 hd1 c14 c26 c28
 go_wp2
 go_ret3
 exact ⟨rfl, H1.out⟩
end Two
namespace Two
open Go.RowKit
attribute [local go_sem] ak_ af_
def wI : Value → Int
 | .int _ n => n
 | _ => 0
theorem u9_ (L : List UInt8) (o : Nat) (ho : o + 8 ≤ L.length) (hl : L.length ≤ 1000000) (w : World) :
 Calls Tryz.prog 334 #[.string ⟨L.toArray⟩, .int .i64 o, .int .i64 8, .bool true] w fun e w' =>
  Below w.heap.size w w' ∧ e = .returned (.tuple #[.int .i64 (lj_ (leN ((L.drop o).take 8))), .bool true]) := by
 have hsz : (⟨L.toArray⟩ : ByteArray).size = L.length := by simp [ByteArray.size]
 obtain ⟨x, hx⟩ : ∃ x, x = (L.drop o).take 8 := ⟨_, rfl⟩
 have hxl : x.length = 8 := by rw [hx, List.length_take, List.length_drop]; omega
 have hxg : ∀ k (hk : k < x.length) (h2 : o + k < L.length), x[k] = L[o + k] := fun k hk h2 => by subst hx; simp
 rw [← hx]
 have HS := h1_ hsz
 have HX := h1_ hxl
 have HG := h1_ hxg
 clear hsz hxl hxg hx
 go_enter Tryz.func334, Tryz.ntmps334
 go_wp2_with (go_at_call 100; refine (hf_ ⟨L.toArray⟩ o 8 _ (by omega) (by omega) (by rw [HS.out]; omega) (by rw [HS.out]; omega)).mono ?_; rintro e w1 ⟨rfl, hb1⟩; have HB := h1_ hb1; clear hb1)
 go_loop [10, 19] (fun n i => ∃ k : Nat, k ≤ 8 ∧ i = .int .i64 k ∧ n = .int .u64 (leN ((x).take k) : Nat)) (fun _ i => 8 - (wI i).toNat)
 case atStart => exact ⟨0, by omega, rfl, rfl⟩
 case round =>
  obtain ⟨k, hk, rfl, rfl⟩ := hrel
  by_cases hlt : k < 8
  · have hb1 : (0 : Int) ≤ (o : Int) + (k : Int) := by omega
    have hb2 : (o : Int) + (k : Int) < (L.length : Int) := by omega
    have hb0 : ((o : Int) + (k : Int)).toNat = o + k := by omega
    go_wp2
    go_round
    case rel =>
     refine ⟨k + 1, by omega, by go_num, ?_⟩
     have hl : k < (x).length := by rw [HX.out]; omega
     rw [p6_ _ k hl, p7_ _ _ k (by omega) (jd_ _ k (by omega)) (UInt8.toNat_lt _), HG.out k hl (by omega)]
     all_goals (congr 4 <;> first | rfl | (simp; done) | (simp; rfl) | (simp [hb0]; done))
    case measure => simp [wI]; omega
  · obtain rfl : k = 8 := by omega
    go_wp2
    go_ret2
    refine ⟨HB.out, ?_⟩
    have ht : (x).take 8 = x := List.take_of_length_le (by rw [HX.out]; omega)
    have hn := s8_ (x)
    rw [show (x).length = 8 from by exact HX.out] at hn
    rw [ht]
    generalize leN (x) = n at *
    have h8 : (256 : Nat) ^ 8 = 18446744073709551616 := by decide
    rw [h8] at hn
    have e2 : wrap64 (IntKind.u64.wrap (n : Int)) = lj_ n := by
     rw [IntKind.wrap_u64]; unfold wrap64 lj_; split <;> omega
    show Ending.returned (.tuple #[.int .i64 (wrap64 (IntKind.u64.wrap (n : Int))), .bool true]) = _
    rw [e2]
theorem hr_ (n : Int) (S : ByteArray) : (Tryz.prog.info? 65).map (·.size) = some [Value.int .i64 n, .string S].length := by kernel_rfl
theorem va_ (C S : List UInt8) (gc cc : Nat) (hC : C.length = 256) (hS : S.length = 1024) (w : World) (h : w.rangeAt gc 0 [.int .i64 512, .string ⟨C.toArray⟩, .int .i64 1024, .string ⟨S.toArray⟩]) (hg : gc < w.heap.size) :
 Calls Tryz.prog 203 #[.slice (some ⟨gc, 0, none⟩) 2 cc, .int .i64 2032] w fun e w' => Below w.heap.size w w' ∧ e = .returned (.tuple #[.int .i64 (lj_ (leN ((S.drop 1008).take 8))), .bool true]) := by
 have hCs : (⟨C.toArray⟩ : ByteArray).size = 256 := by show C.toArray.size = 256; rw [List.size_toArray]; exact hC
 have hSs : (⟨S.toArray⟩ : ByteArray).size = 1024 := by show S.toArray.size = 1024; rw [List.size_toArray]; exact hS
 have hget := fun W => u9_ S 1008 (by omega) (by omega) W
 obtain ⟨A, hA⟩ : ∃ A, A = (⟨C.toArray⟩ : ByteArray) := ⟨_, rfl⟩
 obtain ⟨Z, hZ⟩ : ∃ Z, Z = (⟨S.toArray⟩ : ByteArray) := ⟨_, rfl⟩
 rw [← hA] at hCs h
 rw [← hZ] at hSs h hget
 have HG := h1_ hget
 have h1 : w.rangeAt gc 0 [.int .i64 512, .string A] := fun j u hj => h j u (by
  have : j < 2 := (List.getElem?_eq_some_iff.1 hj).1
  match j, this with
  | 0, _ => exact hj
  | 1, _ => exact hj)
 have h2 : w.rangeAt gc 2 [.int .i64 1024, .string Z] := fun j u hj => by
  have : j < 2 := (List.getElem?_eq_some_iff.1 hj).1
  have h3 := h (2 + j) u (by
   match j, this with
   | 0, _ => exact hj
   | 1, _ => exact hj)
  rw [Nat.zero_add] at h3
  exact h3
 have hCi : (A.size : Int) = 256 := by omega
 have hSi : (Z.size : Int) = 1024 := by omega
 obtain ⟨r, hr⟩ : ∃ r : Int, r = lj_ (leN ((S.drop 1008).take 8)) := ⟨_, rfl⟩
 rw [← hr] at hget HG ⊢
 have HH := h2_ h1 h2
 clear h h1 h2 hA hZ hC hS hCs hSs hr hget
 go_enter Tryz.func203, Tryz.ntmps203
 go_wp2
 refine wp_loop_rounds 3 ?_
 rw [rounds_succ]
 go_upto_region 6 with (first
  | (refine wpList_load_mid rfl 65 (.tmp 15) rfl gc 0 rfl [.int .i64 512, .string A] _ HH.out.1 Tryz.underlying65 rfl (hr_ _ _) ?_)
  | ((with_reducible refine ad_ ?_); refine sr_ rfl rfl (h := ?_); (try simp only [World.setRow_alloc_new])))
 refine ac_ fun X hX => ?_
 have xB : Below w.heap.size w X := by rw [← hX]; go_grown
 have x7 : X.heap[w.heap.size]? = some (.cells #[.int .i64 512, .string A] 65 (0, 0)) := by rw [← hX]; exact heap_alloc_new _ _
 have d0 := al_ x7 0 rfl; have d1 := al_ x7 1 rfl
 have lX := lt_of_block x7
 have HX := h1_ xB
 clear hX xB x7
 go_wp2
 rw [rounds_succ]
 go_upto_region 6 with (first
  | (refine wpList_load_mid rfl 65 (.tmp 15) rfl gc 2 rfl [.int .i64 1024, .string Z] _ (bh_ HH.out.2 hg HX.out) Tryz.underlying65 rfl (hr_ _ _) ?_)
  | ((with_reducible refine ad_ ?_); refine sr_ rfl rfl (h := ?_); (try simp only [World.setRow_alloc_new])))
 refine ac_ fun Y hY => ?_
 have yB : Below X.heap.size X Y := by rw [← hY]; go_grown
 have y7 : Y.heap[X.heap.size]? = some (.cells #[.int .i64 1024, .string Z] 65 (0, 0)) := by rw [← hY]; exact heap_alloc_new _ _
 have d0 := al_ y7 0 rfl; have d1 := al_ y7 1 rfl
 have lY := lt_of_block y7
 have HY := h1_ (HX.out.trans (yB.mono HX.out.size))
 clear hY yB y7 HX
 go_wp2_with fail
 go_at_call 334
 refine (HG.out _).mono ?_
 rintro e w2 ⟨hb2, rfl⟩
 have H2 := h1_ (HY.out.trans (hb2.mono HY.out.size))
 clear hb2
 go_wp2
 go_ret2
 exact ⟨H2.out, rfl⟩
theorem vb_ (C S : List UInt8) (gc cc : Nat) (hC : C.length = 256) (hS : S.length = 1024) (w : World) (h : w.rangeAt gc 0 [.int .i64 512, .string ⟨C.toArray⟩, .int .i64 1024, .string ⟨S.toArray⟩]) (hg : gc < w.heap.size) :
 Calls Tryz.prog 203 #[.slice (some ⟨gc, 0, none⟩) 2 cc, .int .i64 2040] w fun e w' => Below w.heap.size w w' ∧ e = .returned (.tuple #[.int .i64 (lj_ (leN ((S.drop 1016).take 8))), .bool true]) := by
 have hCs : (⟨C.toArray⟩ : ByteArray).size = 256 := by show C.toArray.size = 256; rw [List.size_toArray]; exact hC
 have hSs : (⟨S.toArray⟩ : ByteArray).size = 1024 := by show S.toArray.size = 1024; rw [List.size_toArray]; exact hS
 have hget := fun W => u9_ S 1016 (by omega) (by omega) W
 obtain ⟨A, hA⟩ : ∃ A, A = (⟨C.toArray⟩ : ByteArray) := ⟨_, rfl⟩
 obtain ⟨Z, hZ⟩ : ∃ Z, Z = (⟨S.toArray⟩ : ByteArray) := ⟨_, rfl⟩
 rw [← hA] at hCs h
 rw [← hZ] at hSs h hget
 have HG := h1_ hget
 have h1 : w.rangeAt gc 0 [.int .i64 512, .string A] := fun j u hj => h j u (by
  have : j < 2 := (List.getElem?_eq_some_iff.1 hj).1
  match j, this with
  | 0, _ => exact hj
  | 1, _ => exact hj)
 have h2 : w.rangeAt gc 2 [.int .i64 1024, .string Z] := fun j u hj => by
  have : j < 2 := (List.getElem?_eq_some_iff.1 hj).1
  have h3 := h (2 + j) u (by
   match j, this with
   | 0, _ => exact hj
   | 1, _ => exact hj)
  rw [Nat.zero_add] at h3
  exact h3
 have hCi : (A.size : Int) = 256 := by omega
 have hSi : (Z.size : Int) = 1024 := by omega
 obtain ⟨r, hr⟩ : ∃ r : Int, r = lj_ (leN ((S.drop 1016).take 8)) := ⟨_, rfl⟩
 rw [← hr] at hget HG ⊢
 have HH := h2_ h1 h2
 clear h h1 h2 hA hZ hC hS hCs hSs hr hget
 go_enter Tryz.func203, Tryz.ntmps203
 go_wp2
 refine wp_loop_rounds 3 ?_
 rw [rounds_succ]
 go_upto_region 6 with (first
  | (refine wpList_load_mid rfl 65 (.tmp 15) rfl gc 0 rfl [.int .i64 512, .string A] _ HH.out.1 Tryz.underlying65 rfl (hr_ _ _) ?_)
  | ((with_reducible refine ad_ ?_); refine sr_ rfl rfl (h := ?_); (try simp only [World.setRow_alloc_new])))
 refine ac_ fun X hX => ?_
 have xB : Below w.heap.size w X := by rw [← hX]; go_grown
 have x7 : X.heap[w.heap.size]? = some (.cells #[.int .i64 512, .string A] 65 (0, 0)) := by rw [← hX]; exact heap_alloc_new _ _
 have d0 := al_ x7 0 rfl; have d1 := al_ x7 1 rfl
 have lX := lt_of_block x7
 have HX := h1_ xB
 clear hX xB x7
 go_wp2
 rw [rounds_succ]
 go_upto_region 6 with (first
  | (refine wpList_load_mid rfl 65 (.tmp 15) rfl gc 2 rfl [.int .i64 1024, .string Z] _ (bh_ HH.out.2 hg HX.out) Tryz.underlying65 rfl (hr_ _ _) ?_)
  | ((with_reducible refine ad_ ?_); refine sr_ rfl rfl (h := ?_); (try simp only [World.setRow_alloc_new])))
 refine ac_ fun Y hY => ?_
 have yB : Below X.heap.size X Y := by rw [← hY]; go_grown
 have y7 : Y.heap[X.heap.size]? = some (.cells #[.int .i64 1024, .string Z] 65 (0, 0)) := by rw [← hY]; exact heap_alloc_new _ _
 have d0 := al_ y7 0 rfl; have d1 := al_ y7 1 rfl
 have lY := lt_of_block y7
 have HY := h1_ (HX.out.trans (yB.mono HX.out.size))
 clear hY yB y7 HX
 go_wp2_with fail
 go_at_call 334
 refine (HG.out _).mono ?_
 rintro e w2 ⟨hb2, rfl⟩
 have H2 := h1_ (HY.out.trans (hb2.mono HY.out.size))
 clear hb2
 go_wp2
 go_ret2
 exact ⟨H2.out, rfl⟩
end Two
namespace Two
open Go.RowKit
attribute [local go_sem] ak_ af_
theorem cpu_15 (r : Nat → Int) (pc : Int) : (cpuL r pc)[(15 : Nat)]? = some (.int .i64 (r 15)) := by unfold cpuL; rfl
theorem cpu_16 (r : Nat → Int) (pc : Int) : (cpuL r pc)[(16 : Nat)]? = some (.int .i64 pc) := by unfold cpuL; rfl
theorem vc_ (r : Nat → Int) (pc : Int) : (cpuL r pc).toArray.size = 17 := by unfold cpuL; rfl
def frmC (ID : ByteArray) (pc sp at_ : Int) : List Value := [.int .i64 pc, .int .i64 sp, .int .i64 0, .string ID, .int .i64 at_, .bool false]
theorem if_ : (Tryz.prog.info? 196).map (fun i => (i.zero, i.size, i.bytes)) = some (some (.agg #[.int .i64 0, .int .i64 0, .int .i64 0, .string ⟨#[]⟩, .int .i64 0, .bool false]), 6, 56) := by kernel_rfl
theorem word536 : lj_ (leN (ct_ 536)) = 536 := by decide +kernel
theorem word0 : lj_ (leN (ct_ 0)) = 0 := by decide +kernel
attribute [local irreducible] aa_ zImg cm_ exC cpuL
theorem ex_arr (ID : ByteArray) (B : IB) (x : Int) : (exC ID B x).size = 30 := by unfold exC; rfl
theorem vd_ : cm_.size = 30 := by unfold cm_; rfl
theorem ve_ (gm cm gi ci gd cd gc cc : Nat) (B : IB) (ID : ByteArray) (C S : List UInt8) (hC : C.length = 256) (hS : S.length = 1024) (h1 : (S.drop 1008).take 8 = ct_ 536) (h2 : (S.drop 1016).take 8 = ct_ 0) (r : Nat → Int) (hr : r 15 = 2032) (w : World) (h : ViewAt B ID C S gm gi gd gc w) :
 Calls Tryz.prog 185 #[.agg (vOne gm cm gi ci gd cd gc cc), .agg (cpuL r 576).toArray, .int .i64 0] w fun e w' => (∃ g c, e = .returned (.slice (some ⟨g, 0, none⟩) 2 c) ∧ w'.ownsRow w.heap.size 196 6 (.slice (some ⟨g, 0, none⟩) 2 c) 2 (frmC ID 576 2032 64 ++ frmC ID 536 2040 16)) ∧ Below w.heap.size w w' := by
 have hl1 := fun W (h : W.rangeAt gc 0 [.int .i64 512, .string ⟨C.toArray⟩, .int .i64 1024, .string ⟨S.toArray⟩]) (hg : gc < W.heap.size) => va_ C S gc cc hC hS W h hg
 have hl2 := fun W (h : W.rangeAt gc 0 [.int .i64 512, .string ⟨C.toArray⟩, .int .i64 1024, .string ⟨S.toArray⟩]) (hg : gc < W.heap.size) => vb_ C S gc cc hC hS W h hg
 rw [h1, word536] at hl1
 rw [h2, word0] at hl2
 have HL := h2_ hl1 hl2
 obtain ⟨i0, hi, hz0, hz1, hz2⟩ := info_parts if_
 have HH := h1_ h
 clear h hl1 hl2 hC hS h1 h2
 go_enter Tryz.func185, Tryz.ntmps185
 unfold vOne gg_
 go_upto_region 2 with fail
 refine ac_ fun V hV => ?_
 have vB : Below w.heap.size w V := by rw [← hV]; go_grown
 have v3 : V.heap[w.heap.size]? = some (.cells #[.slice (some ⟨gm, 0, none⟩) 1 cm, .slice none 0 0, .slice (some ⟨gi, 0, none⟩) 1 ci, .slice (some ⟨gd, 0, none⟩) 1 cd, .slice (some ⟨gc, 0, none⟩) 2 cc] 139 (0, 0)) := by rw [← hV]; exact ae_ (heap_alloc_new _ _)
 have v4 : V.heap[w.heap.size + 1]? = some (.cells (cpuL r 576).toArray 70 (0, 0)) := by rw [← hV]; exact block_at (by simp)
 have d15 := ab_ v4 15 (cpu_15 r 576)
 have d16 := ab_ v4 16 (cpu_16 r 576)
 rw [hr] at d15
 have lV := lt_of_block v4
 have HV := h3_ vB v3 (HH.out.below vB)
 clear hV vB v3 v4
 go_quiet (fail)
 refine ac_ fun w1 hW1 => ?_
 have qB : Below V.heap.size V w1 := by rw [← hW1]; exact hz_ _ _
 have b1 := HV.out.1.trans (qB.mono HV.out.1.size)
 have k1 := at_b qB HV.out.2.1
 have lw1 : w.heap.size + 2 ≤ w1.heap.size := by have := qB.size; omega
 have H1 := h2_ b1 k1
 clear hW1 qB b1 k1 d15 d16 HV
 have vb : ∀ W, Below (w.heap.size + 2) w1 W → W.heap[w.heap.size]? = some (.cells #[.slice (some ⟨gm, 0, none⟩) 1 cm, .slice none 0 0, .slice (some ⟨gi, 0, none⟩) 1 ci, .slice (some ⟨gd, 0, none⟩) 1 cd, .slice (some ⟨gc, 0, none⟩) 2 cc] 139 (0, 0)) := fun W hb => (hb.block _ (by omega)).trans H1.out.2
 have va : ∀ W, Below (w.heap.size + 2) w1 W → ViewAt B ID C S gm gi gd gc W := fun W hb => HH.out.below (H1.out.1.trans (hb.mono (by omega)))
 have HW := h1_ (Below.refl (w.heap.size + 2) w1)
 have HO := h1_ (World.ownsRow_nil w1 (w.heap.size + 2) 196 6)
 go_wp2_with fail
 refine wp_loop_rounds 4 ?_
 rw [rounds_succ]
 go_wp2_with (refine wpList_load_row rfl 139 (.tmp 3) rfl w.heap.size rfl 139 #[.slice (some ⟨gm, 0, none⟩) 1 cm, .slice none 0 0, .slice (some ⟨gi, 0, none⟩) 1 ci, .slice (some ⟨gd, 0, none⟩) 1 cd, .slice (some ⟨gc, 0, none⟩) 2 cc] (0, 0) _ (vb _ HW.out) Tryz.underlying139 rfl (by kernel_rfl) ?_)
 refine (il_ gm cm gi ci gd cd gc cc B ID C S 576 (by omega) (by omega) _ (va _ HW.out)).mono ?_
 rintro e u1 ⟨rfl, hb⟩
 rw [show (576 : Int) - 512 = 64 from rfl]
 have HU := h1_ (HW.out.trans (hb.mono (Nat.le_trans lw1 HW.out.size)))
 have ho := ai_ HO.out hb
 have lu : w.heap.size + 2 ≤ u1.heap.size := Nat.le_trans lw1 HU.out.size
 clear hb HW HO
 have HO := h1_ ho
 clear ho
 go_upto_region 6 with ((with_reducible refine ad_ ?_); refine wpList_store_row rfl 476 _ _ rfl _ _ rfl rfl _ _ (heap_alloc_new _ _) (ib_ ID B 64) (by rw [ex_arr]; rfl) (ul_ ID B 64) ?_; (try simp only [World.setRow_alloc_new]))
 refine ac_ fun X1 hX => ?_
 have xB : Below u1.heap.size u1 X1 := by rw [← hX]; go_grown
 have xe : X1.heap[u1.heap.size]? = some (.cells (exC ID B 64) 476 (0, 0)) := by rw [← hX]; exact heap_alloc_new _ _
 have HX := h1_ (HU.out.trans (xB.mono lu))
 have ho := ai_ HO.out xB
 have HE := h1_ xe
 clear hX xB xe HU HO
 have HO := h1_ ho
 clear ho
 go_wp2_with (refine wpList_load_row rfl 476 (.tmp 11) rfl u1.heap.size rfl 476 (exC ID B 64) (0, 0) _ HE.out Tryz.underlying476 rfl (ib_ ID B 64) ?_)
 refine (vdepth ID B 64 (by omega) (by omega) _ (va _ HX.out).dep).mono ?_
 rintro e y1 ⟨rfl, hb⟩
 have lx := HX.out.size
 have HY := h1_ (HX.out.trans (hb.mono (Nat.le_trans lw1 lx)))
 have ho := ai_ HO.out hb
 have xe := at_b hb HE.out
 have c0 := al_ xe 0 (ex0 _ _ _); have c1 := al_ xe 1 (ex1 _ _ _); have c28 := al_ xe 28 (ex28 _ _ _); have c29 := al_ xe 29 (ex29 _ _ _)
 have lxe := lt_of_block xe
 have ly : w.heap.size + 2 ≤ y1.heap.size := Nat.le_trans lw1 HY.out.size
 clear hb xe HE HX HO lx
 have HO := h1_ ho
 clear ho
 go_wp2_with (at_builtin; refine wpList_append_lies _ rfl _ _ _ rfl (w.heap.size + 2) 196 i0 (.agg #[.int .i64 0, .int .i64 0, .int .i64 0, .string ⟨#[]⟩, .int .i64 0, .bool false]) 6 56 Tryz.underlying193 hi hz0 hz1 hz2 rfl (by omega) _ 0 _ rfl (HO.out.alloc _) ⟨y1.heap.size, 0, none⟩ 1 1 (frmC ID 576 2032 64) rfl rfl ?n1 ?n2 (by omega) ?n3 ?n4 ?n5 (y1.heap.size + 1) (by simp) ?_)
 case n1 => exact World.news_of_block (cs := (frmC ID 576 2032 64).toArray) (t := 196) (fr := (0, 0)) (heap_alloc_new y1 _)
 case n2 => simp [frmC, Value.oneCell']
 case n3 => unfold maxLen; omega
 case n4 => omega
 case n5 => simp; omega
 intro g1 cap1 z1 hown hgrow hat hlt
 have hB : Below (w.heap.size + 2) w1 z1 := (HY.out.alloc ly _).grown hgrow (by simp; omega) (fun q hq => by
  simp [Value.ownBlock] at hq)
 have HW := h1_ hB
 clear HO
 try simp only [Nat.zero_add, Nat.reduceAdd, List.nil_append] at hown
 have HO := h1_ hown
 clear hown hgrow hat hlt hB HY c0 c1 c28 c29
 have e4 := al_ (vb _ HW.out) 4 rfl
 have lz : w.heap.size + 2 ≤ z1.heap.size := Nat.le_trans lw1 HW.out.size
 go_wp2_with fail
 go_at_call 203
 refine (HL.out.1 _ (va _ HW.out).mem (va _ HW.out).lc).mono ?_
 rintro e v1 ⟨hb, rfl⟩
 have hB := HW.out.trans (hb.mono lz)
 have ho := ai_ HO.out hb
 clear HW HO hb e4
 have HW := h1_ hB
 have HO := h1_ ho
 have lv : w.heap.size + 2 ≤ v1.heap.size := Nat.le_trans lw1 HW.out.size
 clear hB ho
 go_wp2
 rw [rounds_succ]
 go_wp2_with (refine wpList_load_row rfl 139 (.tmp 3) rfl w.heap.size rfl 139 #[.slice (some ⟨gm, 0, none⟩) 1 cm, .slice none 0 0, .slice (some ⟨gi, 0, none⟩) 1 ci, .slice (some ⟨gd, 0, none⟩) 1 cd, .slice (some ⟨gc, 0, none⟩) 2 cc] (0, 0) _ (vb _ HW.out) Tryz.underlying139 rfl (by kernel_rfl) ?_)
 refine (il_ gm cm gi ci gd cd gc cc B ID C S 528 (by omega) (by omega) _ (va _ HW.out)).mono ?_
 rintro e u2 ⟨rfl, hb⟩
 rw [show (528 : Int) - 512 = 16 from rfl]
 have HU := h1_ (HW.out.trans (hb.mono (Nat.le_trans lw1 HW.out.size)))
 have ho := ai_ HO.out hb
 have lu : w.heap.size + 2 ≤ u2.heap.size := Nat.le_trans lw1 HU.out.size
 clear hb HW HO
 have HO := h1_ ho
 clear ho
 go_upto_region 6 with ((with_reducible refine ad_ ?_); refine wpList_store_row rfl 476 _ _ rfl _ _ rfl rfl _ _ (heap_alloc_new _ _) (ib_ ID B 16) (by rw [ex_arr]; rfl) (ul_ ID B 16) ?_; (try simp only [World.setRow_alloc_new]))
 refine ac_ fun X2 hX => ?_
 have xB : Below u2.heap.size u2 X2 := by rw [← hX]; go_grown
 have xe : X2.heap[u2.heap.size]? = some (.cells (exC ID B 16) 476 (0, 0)) := by rw [← hX]; exact heap_alloc_new _ _
 have HX := h1_ (HU.out.trans (xB.mono lu))
 have ho := ai_ HO.out xB
 have HE := h1_ xe
 clear hX xB xe HU HO
 have HO := h1_ ho
 clear ho
 go_wp2_with (refine wpList_load_row rfl 476 (.tmp 11) rfl u2.heap.size rfl 476 (exC ID B 16) (0, 0) _ HE.out Tryz.underlying476 rfl (ib_ ID B 16) ?_)
 refine (vdepth ID B 16 (by omega) (by omega) _ (va _ HX.out).dep).mono ?_
 rintro e y2 ⟨rfl, hb⟩
 have lx := HX.out.size
 have HY := h1_ (HX.out.trans (hb.mono (Nat.le_trans lw1 lx)))
 have ho := ai_ HO.out hb
 have xe := at_b hb HE.out
 have c0 := al_ xe 0 (ex0 _ _ _); have c1 := al_ xe 1 (ex1 _ _ _); have c28 := al_ xe 28 (ex28 _ _ _); have c29 := al_ xe 29 (ex29 _ _ _)
 have lxe := lt_of_block xe
 have ly : w.heap.size + 2 ≤ y2.heap.size := Nat.le_trans lw1 HY.out.size
 clear hb xe HE HX HO lx
 have HO := h1_ ho
 clear ho
 go_wp2_with (at_builtin; refine wpList_append_lies _ rfl _ _ _ rfl (w.heap.size + 2) 196 i0 (.agg #[.int .i64 0, .int .i64 0, .int .i64 0, .string ⟨#[]⟩, .int .i64 0, .bool false]) 6 56 Tryz.underlying193 hi hz0 hz1 hz2 rfl (by omega) _ 1 _ rfl (HO.out.alloc _) ⟨y2.heap.size, 0, none⟩ 1 1 (frmC ID 536 2040 16) rfl rfl ?n1 ?n2 (by omega) ?n3 ?n4 ?n5 (y2.heap.size + 1) (by simp) ?_)
 case n1 => exact World.news_of_block (cs := (frmC ID 536 2040 16).toArray) (t := 196) (fr := (0, 0)) (heap_alloc_new y2 _)
 case n2 => simp [frmC, Value.oneCell']
 case n3 => unfold maxLen; omega
 case n4 => omega
 case n5 => simp; omega
 intro g2 cap2 z2 hown hgrow hat hlt
 have hB : Below (w.heap.size + 2) w1 z2 := (HY.out.alloc ly _).grown hgrow (by simp; omega) (fun q hq => by
  simp only [Value.ownBlock, Option.some.injEq] at hq; subst hq; exact (ah_ HO.out).1)
 have HW := h1_ hB
 clear HO
 try simp only [Nat.zero_add, Nat.reduceAdd, List.nil_append] at hown
 have HO := h1_ hown
 clear hown hgrow hat hlt hB HY c0 c1 c28 c29
 have e4 := al_ (vb _ HW.out) 4 rfl
 have lz : w.heap.size + 2 ≤ z2.heap.size := Nat.le_trans lw1 HW.out.size
 go_wp2_with fail
 go_at_call 203
 refine (HL.out.2 _ (va _ HW.out).mem (va _ HW.out).lc).mono ?_
 rintro e v2 ⟨hb, rfl⟩
 have hB := HW.out.trans (hb.mono lz)
 have ho := ai_ HO.out hb
 clear HW HO hb e4
 have HW := h1_ hB
 have HO := h1_ ho
 have lv : w.heap.size + 2 ≤ v2.heap.size := Nat.le_trans lw1 HW.out.size
 clear hB ho
 go_wp2
 rw [rounds_succ]
 go_wp2_with (refine wpList_load_row rfl 139 (.tmp 3) rfl w.heap.size rfl 139 #[.slice (some ⟨gm, 0, none⟩) 1 cm, .slice none 0 0, .slice (some ⟨gi, 0, none⟩) 1 ci, .slice (some ⟨gd, 0, none⟩) 1 cd, .slice (some ⟨gc, 0, none⟩) 2 cc] (0, 0) _ (vb _ HW.out) Tryz.underlying139 rfl (by kernel_rfl) ?_)
 refine (nh_ gm cm gi ci gd cd gc cc B ID C S (-8) (by omega) _ (va _ HW.out)).mono ?_
 rintro e u3 ⟨rfl, hb⟩
 have HU := h1_ (HW.out.trans (hb.mono (Nat.le_trans lw1 HW.out.size)))
 have ho := ai_ HO.out hb
 have lu : w.heap.size + 2 ≤ u3.heap.size := Nat.le_trans lw1 HU.out.size
 clear hb HW HO
 have HO := h1_ ho
 clear ho
 go_upto_region 6 with ((with_reducible refine ad_ ?_); refine wpList_store_row rfl 476 _ _ rfl _ _ rfl rfl _ _ (heap_alloc_new _ _) cn_ (by rw [vd_]; rfl) ek_ ?_; (try simp only [World.setRow_alloc_new]))
 refine ac_ fun X3 hX => ?_
 have xB : Below u3.heap.size u3 X3 := by rw [← hX]; go_grown
 have HX := h1_ (HU.out.trans (xB.mono lu))
 have ho := ai_ HO.out xB
 clear hX xB HU HO
 have HO := h1_ ho
 clear ho
 go_wp2
 go_ret
 exact ⟨⟨g2, cap2, rfl, ownsRow_base_a HO.out (by omega)⟩, H1.out.1.trans (HX.out.mono (by omega))⟩
end Two
end Go.Proofs.YtacaejpamidkcaaGreatDoor
