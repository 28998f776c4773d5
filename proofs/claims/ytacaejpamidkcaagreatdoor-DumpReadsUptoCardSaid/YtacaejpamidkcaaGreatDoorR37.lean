/- machine: Step. machine: Step at the end of the code. machine: a call, and what does nothing. machine: what op 1 and op 22 do, for lw_. word.Fits, isa.imm, isa.Right at any instruction. isa.Right at any instruction. isa.Decode at right instructions (calls too), isa.Encode at any instruction. -/
import Derived.Test.YtacaejpamidkcaaGreatDoorR36
set_option linter.unusedVariables false
set_option linter.unusedSimpArgs false
set_option maxRecDepth 100000
set_option maxHeartbeats 4000000
namespace Go.Proofs.YtacaejpamidkcaaGreatDoor
section
open Go.RowKit
attribute [local go_sem] ak_ af_
theorem dv_ (r : Nat → Int) (pc : Int) : (Tryz.prog.info? 70).map (·.size) = some (cpuL r pc).toArray.size := by unfold cpuL; kernel_rfl
theorem um_ (r : Nat → Int) (pc : Int) : (Tryz.prog.info? 70).map (·.size) = some (cpuL r pc).length := by unfold cpuL; kernel_rfl
theorem gs_ (r : Nat → Int) (pc : Int) : (cpuL r pc).toArray.all (·.oneCell') = true := by unfold cpuL; simp [Value.oneCell']
theorem un_ (s : Nat) (op a b c imm : Int) (r : Nat → Int) (pc : Int) (r' : Nat → Int) (pc' k n : Int) (bad : Bool) : ∀ j v, (cpuL r' pc')[j]? = some v → (runL s op a b c imm r pc r' pc' k n bad)[23 + j]? = some v := by
 intro j v h
 have hl : j < 17 := (List.getElem?_eq_some_iff.1 h).1
 have e : (runL s op a b c imm r pc r' pc' k n bad)[23 + j]? = (cpuL r' pc' ++ [.int .i64 k, .int .i64 n, .bool bad])[j]? := by
  show ((.pointer (some ⟨s, 0, none⟩) :: .int .i64 op :: .int .i64 a :: .int .i64 b :: .int .i64 c :: .int .i64 imm :: (cpuL r pc ++ (cpuL r' pc' ++ [.int .i64 k, .int .i64 n, .bool bad])) : List Value))[23 + j]? = _
  rw [show 23 + j = (17 + j) + 6 by omega]
  show (cpuL r pc ++ (cpuL r' pc' ++ [.int .i64 k, .int .i64 n, .bool bad]))[17 + j]? = _
  rw [List.getElem?_append_right (show (cpuL r pc).length ≤ 17 + j by simp [cpuL]), show (cpuL r pc).length = 17 from rfl, Nat.add_sub_cancel_left]
 rw [e, List.getElem?_append_left (by simpa [cpuL] using hl)]
 exact h
theorem km_ {W : World} {g : Nat} {s : Nat} {op a b c imm : Int} {r : Nat → Int} {pc : Int} {r' : Nat → Int} {pc' k n : Int} {bad : Bool} {t : TypeId} {fr : Nat × Nat} (h : W.heap[g]? = some (.cells (runL s op a b c imm r pc r' pc' k n bad).toArray t fr)) : W.rangeAt g 23 (cpuL r' pc') :=
 fun j v hv => ab_ h (23 + j) (un_ _ _ _ _ _ _ _ _ _ _ _ _ _ j v hv)
theorem m3_ {W : World} {g : Nat} {s : Nat} {op a b c imm : Int} {r : Nat → Int} {pc : Int} {r' : Nat → Int} {pc' k n : Int} {bad : Bool} {t : TypeId} {fr : Nat × Nat} (h : W.heap[g]? = some (.cells (runL s op a b c imm r pc r' pc' k n bad).toArray t fr)) : W.rangeAt g 40 [.int .i64 k, .int .i64 n] := by
 intro j v hv
 match j, hv with
 | 0, hv => cases hv; exact ab_ h 40 rfl
 | 1, hv => cases hv; exact ab_ h 41 rfl
 | j + 2, hv => simp at hv
def uo_ (s gp cap : Nat) (fnum : Nat) (op a b c imm : Int) (r : Nat → Int) (pc : Int) (r2 : Nat → Int) (pc2 k2 n2 : Int) (ps ps2 : List Part) (S : Nat → Prop) : Prop :=
 ∀ W g, W.heap[g]? = some (.cells (runL s op a b c imm r pc r (pc + 8) 0 0 false).toArray 319 (0, 0)) → SpaceAt W s (.slice (some ⟨gp, 0, none⟩) ps.length cap) ps →
  Calls Tryz.prog fnum #[.pointer (some ⟨g, 0, none⟩)] W fun e w' => e = .returned (.tuple #[]) ∧ Only (fun x => x = g ∨ S x) W w' ∧ w'.heap[g]? = some (.cells (runL s op a b c imm r pc r2 pc2 k2 n2 false).toArray 319 (0, 0)) ∧
   SpaceAt w' s (.slice (some ⟨gp, 0, none⟩) ps.length cap) ps2
theorem sd_ {P : Program} {ops : Array Oper} {rest : List Oper} {o : Oper} {a : Act} {w w' : World} {v : Value} {Q : Exit → Act → World → Prop} (hgd : o.guard = none)
 (he : (execOp a.eval o).run P w = .ok (.value v) w') (h : wpList P ops Q rest (a.put o.dst v) w') : wpList P ops Q (o :: rest) a w := by
 refine wpList_plain hgd fun _ hK => ?_
 unfold Oper.wp
 simp [he]
 exact hK _ _ h
theorem w6_ (s : Nat) (op ra b c imm : Int) (r : Nat → Int) (pc : Int) (o : Oper) (a : Act) (w : World) (ho : o.op = .build 319 #[(0, .tmp 26), (1, .tmp 27), (2, .tmp 28), (3, .tmp 29)])
 (h26 : a.tmps[(26 : Nat)]?.getD undef = .pointer (some ⟨s, 0, none⟩)) (h27 : a.tmps[(27 : Nat)]?.getD undef = .agg #[.int .i64 op, .int .i64 ra, .int .i64 b, .int .i64 c, .int .i64 imm])
 (h28 : a.tmps[(28 : Nat)]?.getD undef = .agg (cpuL r pc).toArray) (h29 : a.tmps[(29 : Nat)]?.getD undef = .agg (cpuL r pc).toArray) :
 (execOp a.eval o).run Tryz.prog w = .ok (.value (.agg (runL s op ra b c imm r pc r pc 0 0 false).toArray)) w := by
 unfold runL
 unfold cpuL at *
 simp [execOp, ho, h26, h27, h28, h29, go_sem]
theorem cpu_len (r : Nat → Int) (pc : Int) : (cpuL r pc).length = 17 := rfl
theorem runL_pc (s : Nat) (op a b c imm : Int) (r : Nat → Int) (pc : Int) (r' : Nat → Int) (pc' k n : Int) (bad : Bool) (v : Int) : (runL s op a b c imm r pc r' pc' k n bad).set 39 (.int .i64 v) = runL s op a b c imm r pc r' v k n bad := rfl
theorem runL_39 (s : Nat) (op a b c imm : Int) (r : Nat → Int) (pc : Int) (r' : Nat → Int) (pc' k n : Int) (bad : Bool) : (runL s op a b c imm r pc r' pc' k n bad)[(39 : Nat)]? = some (.int .i64 pc') := rfl
theorem runL_42 (s : Nat) (op a b c imm : Int) (r : Nat → Int) (pc : Int) (r' : Nat → Int) (pc' k n : Int) (bad : Bool) : (runL s op a b c imm r pc r' pc' k n bad)[(42 : Nat)]? = some (.bool bad) := rfl
theorem m4_ {w : World} {b : Nat} {l : List Value} {t : TypeId} (h : w.heap[b]? = some (.cells l.toArray t (0, 0))) (n : Nat) (hn : n ≤ l.length) : w.there b 0 n := fun j hj => by
 rw [Nat.zero_add, ab_ h j (List.getElem?_eq_getElem (by omega))]
 exact ⟨rfl, ag_ h j⟩
theorem c8_ {P : Program} {md : Region.Mode} {ops : Array Oper} {Q : Exit → Act → World → Prop} {S : World → Prop} {i : Nat} {oi : Oper} {v : Value} {fuel : Nat} {listed : Array Bool} {a : Act} {w : World} (d : Tmp) (hi : ops[i]? = some oi) (hd : oi.dst = some d)
 (hs : Region.noSelect ops = true) (hf : Region.free md ops listed i = true) (hr : (Region.ready md ops listed).contains i = true)
 (hQ : ∀ c a w, Q (.panic c) (a.put (some d) v) w → Q (.panic c) a w) (hy : YieldsIf P ops S oi v a) (hS : S w)
 (h : wpAnyH P md ops Q S fuel (listed.setIfInBounds i true) (a.put (some d) v) w) : wpAnyH P md ops Q S (fuel + 1) listed a w :=
 wpAnyH_take hi hs hf hr (by rw [hd]; exact hQ) hy hS (by rw [hd]; exact h)
attribute [local irreducible] cpuL runL j0_
attribute [local go_sem ↓] Go.wp_at_zero Go.wp_at_succ
theorem lw_ (s gp cap : Nat) (ps ps2 : List Part) (fnum : Nat) (op ra b c imm : Int) (r : Nat → Int) (pc : Int) (r2 : Nat → Int) (pc2 k2 n2 : Int) (S : Nat → Prop) (w : World) (hA : AreasOk ps) (hsp : SpaceAt w s (.slice (some ⟨gp, 0, none⟩) ps.length cap) ps) (hf : Forms w)
 (hfe : FetchAt ps pc op ra b c imm) (hpc : 0 < pc) (hidx : ∀ w : World, (Instr.index 321 (.agg j0_) (.int .i64 op)).run Tryz.prog w = .ok (.func (.func fnum) #[] #[]) w)
 (hop : uo_ s gp cap fnum op ra b c imm r pc r2 pc2 k2 n2 ps ps2 S) (hS : ∀ x, S x → x < w.heap.size) (hpc2 : pc ≤ 1099511627776) (hcall : ∀ (args : Array Value) (w : World), (callFunc fnum args).run Tryz.prog w = .ok (.enter fnum args) w) :
 Calls Tryz.prog 74 #[.pointer (some ⟨s, 0, none⟩), .agg (cpuL r pc).toArray] w fun e w' => e = .returned (.tuple #[.agg (cpuL r2 pc2).toArray, .agg #[.int .i64 k2, .int .i64 n2]]) ∧ Only S w w' ∧ SpaceAt w' s (.slice (some ⟨gp, 0, none⟩) ps.length cap) ps2 := by
 have hz : (pc == 0) = false := by simp; omega
 have HH := h6_ hA hsp hf hfe hop hS
 have HI := h1_ hidx
 have c16 : (cpuL r pc)[(16 : Nat)]? = some (.int .i64 pc) := by unfold cpuL; rfl
 have HC := h1_ c16
 have HCL := h1_ hcall
 clear hA hsp hf hfe hop hS hidx c16 hcall
 go_enter Tryz.func74, Tryz.ntmps74
 go_upto_region 1 with fail
 refine ac_ fun V hV => ?_
 have vB : Below w.heap.size w V := by rw [← hV]; go_grown
 have vA : V.heap[w.heap.size]? = some (.cells (cpuL r pc).toArray 70 (0, 0)) := by rw [← hV]; exact ae_ (ae_ (heap_alloc_new _ _))
 have v4 : V.heap[w.heap.size + 1]? = some (.cells #[.int .i64 0, .int .i64 0, .int .i64 0, .int .i64 0, .int .i64 0, .int .i64 0, .int .i64 0, .int .i64 0, .int .i64 0, .int .i64 0, .int .i64 0, .int .i64 0, .int .i64 0, .int .i64 0, .int .i64 0, .int .i64 0, .int .i64 0] 70 (0, 0)) := by
  rw [← hV]; exact ae_ (block_at (by simp))
 have v5 : V.heap[w.heap.size + 1 + 1]? = some (.cells #[.int .i64 0, .int .i64 0] 136 (0, 0)) := by rw [← hV]; exact block_at (by simp)
 have d16 := ab_ vA 16 HC.out
 have HV := h4_ vB vA v4 v5
 clear hV vB vA v4 v5
 go_wp2_with fail
 go_at_call 167
 refine (w4_ s gp cap ps pc op ra b c imm _ HH.out.1 (HH.out.2.1.below HV.out.1) (HH.out.2.2.1.below HV.out.1) HH.out.2.2.2.1).mono ?_
 rintro e w1 ⟨hb1, rfl⟩
 unfold insV
 obtain ⟨vB, vA, v4, v5⟩ := HV.out
 have kB := vB.trans (hb1.mono vB.size)
 have kA := at_b hb1 vA
 have k4 := at_b hb1 v4
 have k5 := at_b hb1 v5
 have lA := lt_of_block kA
 have HK := h4_ kB kA k4 k5
 clear vB vA v4 v5 kB kA k4 k5 hb1 HV d16
 go_upto_region 6 with ((with_reducible refine ad_ ?_); refine sr_ rfl rfl (h := ?_); (try simp only [World.setRow_alloc_new]))
 refine ac_ fun X hX => ?_
 have xB1 : Below w1.heap.size w1 X := by rw [← hX]; go_grown
 have x6 : X.heap[w1.heap.size]? = some (.cells #[.int .i64 op, .int .i64 ra, .int .i64 b, .int .i64 c, .int .i64 imm] 105 (0, 0)) := by rw [← hX]; exact heap_alloc_new _ _
 obtain ⟨kB, kA, k4, k5⟩ := HK.out
 have xB := kB.trans (xB1.mono kB.size)
 have xA := at_b xB1 kA
 have x4 := at_b xB1 k4
 have x5 := at_b xB1 k5
 have i0 := al_ x6 0 rfl
 have i1 := al_ x6 1 rfl
 have i2 := al_ x6 2 rfl
 have i3 := al_ x6 3 rfl
 have i4 := al_ x6 4 rfl
 have HX := h5_ xB xA x4 x5 x6
 clear kB kA k4 k5 xB1 xB x4 x5 x6 hX HK
 go_upto_region 7 with (first
  | (refine wpList_load_row rfl 70 (.tmp 3) rfl w.heap.size rfl 70 (cpuL r pc).toArray (0, 0) _ xA Tryz.underlying70 rfl (dv_ r pc) ?_)
  | (refine sd_ rfl (w6_ s op ra b c imm r pc _ _ _ rfl rfl rfl rfl rfl) ?_))
 obtain ⟨xB, xA', x4, x5, x6⟩ := HX.out
 have yB1 : Below X.heap.size X (X.alloc (.cells (runL s op ra b c imm r pc r pc 0 0 false).toArray 319)) := (Below.refl _ _).alloc (Nat.le_refl _) _
 refine ac_ fun Y hY => ?_
 have yR : Y.heap[X.heap.size]? = some (.cells (runL s op ra b c imm r pc r pc 0 0 false).toArray 319 (0, 0)) := by rw [← hY]; exact heap_alloc_new _ _
 rw [hY] at yB1
 have yB := xB.trans (yB1.mono xB.size)
 have yA := at_b yB1 xA'
 have y4 := at_b yB1 x4
 have y5 := at_b yB1 x5
 have y6 := at_b yB1 x6
 have c39 := ab_ yR 39 (runL_39 _ _ _ _ _ _ _ _ _ _ _ _ _)
 have f39 := ag_ yR 39
 have lY1 := lt_of_block yR
 have n6 : w1.heap.size ≠ X.heap.size := by have := lt_of_block x6; omega
 have n5 : w.heap.size + 1 + 1 ≠ X.heap.size := by have := lt_of_block x5; omega
 have n4 : w.heap.size + 1 ≠ X.heap.size := by have := lt_of_block x4; omega
 have nA : w.heap.size ≠ X.heap.size := by have := lt_of_block xA'; omega
 have lwX := xB.size
 have HY := h6_ yB yA y4 y5 y6 yR
 have hsum : IntKind.i64.wrap (pc + 8) = pc + 8 := IntWalk.i64_in _ (by omega)
 clear xB xA xA' x4 x5 x6 yB1 yB yA y4 y5 y6 yR hY HX i0 i1 i2 i3 i4
 go_upto_region 8 with fail
 clear hsum
 obtain ⟨yB, yA, y4, y5, y6, yR⟩ := HY.out
 refine ac_ fun Z hZ => ?_
 have zo : Only (· = X.heap.size) Y Z := by rw [← hZ]; exact (Only.refl (· = X.heap.size) Y).setCell ⟨X.heap.size, 39, none⟩ _ (.inl rfl)
 have zR : Z.heap[X.heap.size]? = some (.cells (runL s op ra b c imm r pc r (pc + 8) 0 0 false).toArray 319 (0, 0)) := by
  have h := aj_ yR 39 (.int .i64 (pc + 8))
  rw [runL_pc] at h
  rw [← hZ]; exact h
 have z4 := zo.kept y4 n4
 have z5 := zo.kept y5 n5
 have z6 := zo.kept y6 n6
 have zA := zo.kept yA nA
 have zB : Below w.heap.size w Z := ((Only.of_below_le yB (fun k _ h => h) : Only (fun k => w.heap.size ≤ k) w Y).then zo (by intro k _ h; omega)).below (Nat.le_refl _) (fun k h => h)
 have HZ := h6_ zB zA z4 z5 z6 zR
 clear yB yA y4 y5 y6 yR zo zR z4 z5 z6 zA zB hZ HY c39 f39
 obtain ⟨zB, zA, z4, z5, z6, zR⟩ := HZ.out
 refine wr_ [.val (.agg j0_), .pt w1.heap.size 0, .val (.int .i64 op), .val (.func (.func fnum) #[] #[]), .pt X.heap.size 0] (by kernel_rfl) (by kernel_rfl) ?_ ?_
 · simp only [ck_, List.take, List.length]
   refine ⟨?_, ?_, ?_, ?_, ?_, ?_⟩
   all_goals first | trivial | (intro a wx hb hf hd)
   all_goals have hf6 : zp_ a 6 w1.heap.size 0 := (hf 6).trans rfl
   all_goals have hf8 : zp_ a 8 X.heap.size 0 := (hf 8).trans rfl
   · refine cu_ (f := 168) (args := #[]) (by simp [execOp, go_sem]) ?_
     refine (w5_ _).mono ?_
     rintro e w3 ⟨hb3, rfl⟩
     exact ⟨_, rfl, hb3, rfl, fun h => by cases h⟩
   · exact gp_ (by simp [execOp, hf6, go_sem])
   · have h42 : z_ a 42 _ := hd 1
     have hc := ab_ (at_b hb z6) 0 (rfl)
     exact gp_ (by simp [execOp, h42, hc, go_sem])
   · have h41 : z_ a 41 _ := hd 0
     have h43 : z_ a 43 _ := hd 2
     exact gp_ (by simp [execOp, Act.eval, h41, h43, HI.out])
   · exact as_ _ rfl ⟨hf8, fun h => by cases h⟩
 · intro fv w2 hb2 hs hn hne
   rw [facv hs [41, 42, 43, 44, 45] (by kernel_rfl)]
   simp only [actG, Act.put, List.drop, List.length, List.setIfInBounds_toArray, List.set_cons_zero, List.set_cons_succ]
   clear hs hn hne
   have yR := at_b hb2 zR
   have y4 := at_b hb2 z4
   have y5 := at_b hb2 z5
   have yB := zB.trans (hb2.mono zB.size)
   have ysp := HH.out.2.1.below yB
   have HY := h5_ yB y4 y5 yR ysp
   clear zB zA z4 z5 z6 zR HZ yR y4 y5 yB ysp hb2
   have hcall := HCL.out
   go_wp2_with fail
   clear hcall
   refine (HH.out.2.2.2.2.1 _ _ HY.out.2.2.2.1 HY.out.2.2.2.2).mono ?_
   rintro e w3 ⟨rfl, ho3, hR3, hsp3⟩
   have k4 := ho3.kept HY.out.2.1 (by rintro (h | h); exact n4 h; exact absurd (HH.out.2.2.2.2.2 _ h) (by omega))
   have k5 := ho3.kept HY.out.2.2.1 (by rintro (h | h); exact n5 h; exact absurd (HH.out.2.2.2.2.2 _ h) (by omega))
   have c42 := ab_ hR3 42 (runL_42 _ _ _ _ _ _ _ _ _ _ _ _ _)
   have o3 : Only (fun x => w.heap.size ≤ x ∨ S x) w w3 := ((Only.of_below_le HY.out.1 (fun k _ h => .inl h)) : Only (fun x => w.heap.size ≤ x ∨ S x) w w2).then ho3 (by rintro k hk (h | h); exact .inl (by omega); exact .inr h)
   have hs3 := o3.size
   have l4 := lt_of_block k4
   have l5 := lt_of_block k5
   have H3 := h5_ o3 k4 k5 hR3 hsp3
   clear ho3 hR3 hsp3 k4 k5 o3 HY
   go_upto_region 11 with fail
   clear c42
   obtain ⟨o3, k4, k5, hR3, hsp3⟩ := H3.out
   have zs4 : (w3.heap.size) = (w3.drew).heap.size := rfl
   have d4 : (w3.drew).heap[w.heap.size + 1]? = some (.cells (List.replicate 17 (.int .i64 0)).toArray 70 (0, 0)) := k4
   have d5 : (w3.drew).heap[w.heap.size + 1 + 1]? = some (.cells (List.replicate 2 (.int .i64 0)).toArray 136 (0, 0)) := k5
   have hS0 : (fun w' : World => w'.heap[X.heap.size]? = some (.cells (runL s op ra b c imm r pc r2 pc2 k2 n2 false).toArray 319 (0, 0))) w3.drew := hR3
   have o4 : Only (fun x => w.heap.size ≤ x ∨ S x) w w3.drew := o3.drew
   have hl17 := cpu_len r2 pc2
   have hspd : SpaceAt w3.drew s (.slice (some ⟨gp, 0, none⟩) ps.length cap) ps2 := hsp3.below (Below.refl _ _).drew
   have HD := h5_ d4 d5 o4 hl17 hspd
   clear o3 k4 k5 hR3 hsp3 d4 d5 o4 hl17 H3 hspd
   refine wp_region_held (S := fun w' : World => w'.heap[X.heap.size]? = some (.cells (runL s op ra b c imm r pc r2 pc2 k2 n2 false).toArray 319 (0, 0))) (by kernel_rfl) ?_
   change wpAnyH _ _ _ _ _ 10 _ _ w3.drew
   generalize w3.drew = w4 at *
   refine c8_ (i := 0) 53 (v := .pointer (some ⟨X.heap.size, 0, none⟩)) rfl rfl (by kernel_rfl) (by kernel_rfl) (by kernel_rfl) (fun _ _ _ h => h) (.inl ⟨by rfl, fun w' _ => by simp [execOp, Act.eval, go_sem]⟩) hS0 ?_
   simp only [Act.put, List.setIfInBounds_toArray, List.set_cons_zero, List.set_cons_succ]
   refine c8_ (i := 1) 54 (v := .pointer (some ⟨X.heap.size, 0, none⟩)) rfl rfl (by kernel_rfl) (by kernel_rfl) (by kernel_rfl) (fun _ _ _ h => h) (.inl ⟨by rfl, fun w' _ => by simp [execOp, Act.eval, go_sem]⟩) hS0 ?_
   simp only [Act.put, List.setIfInBounds_toArray, List.set_cons_zero, List.set_cons_succ]
   refine c8_ (i := 2) 55 (v := .pointer (some ⟨X.heap.size, 23, none⟩)) rfl rfl (by kernel_rfl) (by kernel_rfl) (by kernel_rfl) (fun _ _ _ h => h) (.inl ⟨by rfl, fun w' _ => by simp [execOp, Act.eval, go_sem]⟩) hS0 ?_
   simp only [Act.put, List.setIfInBounds_toArray, List.set_cons_zero, List.set_cons_succ]
   refine c8_ (i := 3) 56 (v := .agg (cpuL r2 pc2).toArray) rfl rfl (by kernel_rfl) (by kernel_rfl) (by kernel_rfl) (fun _ _ _ h => h) (yieldsIf_load_mid (by rfl) 70 (.tmp 55) rfl X.heap.size 23 rfl (cpuL r2 pc2) _ (fun _ h => km_ h) Tryz.underlying70 rfl (um_ r2 pc2)) hS0 ?_
   simp only [Act.put, List.setIfInBounds_toArray, List.set_cons_zero, List.set_cons_succ]
   refine c8_ (i := 4) 57 (v := .pointer (some ⟨X.heap.size, 0, none⟩)) rfl rfl (by kernel_rfl) (by kernel_rfl) (by kernel_rfl) (fun _ _ _ h => h) (.inl ⟨by rfl, fun w' _ => by simp [execOp, Act.eval, go_sem]⟩) hS0 ?_
   simp only [Act.put, List.setIfInBounds_toArray, List.set_cons_zero, List.set_cons_succ]
   refine c8_ (i := 5) 58 (v := .pointer (some ⟨X.heap.size, 0, none⟩)) rfl rfl (by kernel_rfl) (by kernel_rfl) (by kernel_rfl) (fun _ _ _ h => h) (.inl ⟨by rfl, fun w' _ => by simp [execOp, Act.eval, go_sem]⟩) hS0 ?_
   simp only [Act.put, List.setIfInBounds_toArray, List.set_cons_zero, List.set_cons_succ]
   refine c8_ (i := 6) 59 (v := .pointer (some ⟨X.heap.size, 40, none⟩)) rfl rfl (by kernel_rfl) (by kernel_rfl) (by kernel_rfl) (fun _ _ _ h => h) (.inl ⟨by rfl, fun w' _ => by simp [execOp, Act.eval, go_sem]⟩) hS0 ?_
   simp only [Act.put, List.setIfInBounds_toArray, List.set_cons_zero, List.set_cons_succ]
   refine c8_ (i := 7) 60 (v := .agg #[.int .i64 k2, .int .i64 n2]) rfl rfl (by kernel_rfl) (by kernel_rfl) (by kernel_rfl) (fun _ _ _ h => h) (yieldsIf_load_mid (by rfl) 136 (.tmp 59) rfl X.heap.size 40 rfl [.int .i64 k2, .int .i64 n2] _ (fun _ h => m3_ h) Tryz.underlying136 rfl (by kernel_rfl)) hS0 ?_
   simp only [Act.put, List.setIfInBounds_toArray, List.set_cons_zero, List.set_cons_succ]
   refine wpAnyH_ready (rs := [8]) (by kernel_rfl) (by simp) ?_
   refine AllReadyH.cons rfl (fun K hK => ?_) AllReadyH.nil
   rw [if_pos (by rfl)]
   refine wp_store_mid 70 (.tmp 4) (.tmp 56) rfl (w.heap.size + 1) 0 (cpuL r2 pc2).toArray rfl rfl ?_ (dv_ r2 pc2) (gs_ r2 pc2) ?_
   · exact m4_ HD.out.1 _ (by rw [List.size_toArray, HD.out.2.2.2.1]; simp)
   refine hK.out _ _ ?_ (fun hS1 => ?_)
   · exact (Only.setCells (S := (· = w.heap.size + 1)) (w := w4) _ (.inl rfl) _ _ _ (Only.refl _ _)).kept hS0 (Ne.symm n4)
   obtain ⟨d4, d5, o4, hl17, hsp3⟩ := HD.out
   have oW : Only (· = w.heap.size + 1) w4 (w4.setCells (w.heap.size + 1) 0 (cpuL r2 pc2)) := Only.setCells (S := (· = w.heap.size + 1)) (w := w4) _ (.inl rfl) _ _ _ (Only.refl _ _)
   have e5 := oW.kept d5 (by omega)
   have e4 := cw_ _ _ _ (cpuL r2 pc2) _ 0 w4 (by rw [hl17]; simp) d4
   refine wpAnyH_ready (rs := [9]) (by kernel_rfl) (by simp) ?_
   refine AllReadyH.cons rfl (fun K hK => ?_) AllReadyH.nil
   rw [if_pos (by rfl)]
   refine wp_store_mid 136 (.tmp 5) (.tmp 60) rfl (w.heap.size + 1 + 1) 0 #[.int .i64 k2, .int .i64 n2] rfl rfl ?_ (by kernel_rfl) (by simp [Value.oneCell']) ?_
   · exact m4_ e5 _ (by simp)
   have oV : Only (· = w.heap.size + 1 + 1) (w4.setCells (w.heap.size + 1) 0 (cpuL r2 pc2)) ((w4.setCells (w.heap.size + 1) 0 (cpuL r2 pc2)).setCells (w.heap.size + 1 + 1) 0 [.int .i64 k2, .int .i64 n2]) := Only.setCells (S := (· = w.heap.size + 1 + 1)) (w := w4.setCells (w.heap.size + 1) 0 (cpuL r2 pc2)) _ (.inl rfl) _ _ _ (Only.refl _ _)
   refine hK.out _ _ ?_ (fun hS1 => ?_)
   · exact oV.kept hS1 (Ne.symm n5)
   refine wpAnyH_done (by kernel_rfl) ?_ _
   have f4 := oV.kept e4 (by omega)
   have f5 := cw_ _ _ _ [.int .i64 k2, .int .i64 n2] _ 0 _ (by simp) e5
   have wsp : SpaceAt w4 s (.slice (some ⟨gp, 0, none⟩) ps.length cap) ps2 := hsp3
   have vsp := (wsp.kept oW (by rintro k hk rfl; exact wsp.not_cells d4 (by decide) (by decide) (by decide) hk))
   have usp := vsp.kept oV (by rintro k hk rfl; exact vsp.not_cells e5 (by decide) (by decide) (by decide) hk)
   have oF : Only (fun x => w.heap.size ≤ x ∨ S x) w ((w4.setCells (w.heap.size + 1) 0 (cpuL r2 pc2)).setCells (w.heap.size + 1 + 1) 0 [.int .i64 k2, .int .i64 n2]) := (o4.then oW (by intro k _ h; exact .inl (by omega))).then oV (by intro k _ h; exact .inl (by omega))
   have hd17 : (List.replicate 17 (Value.int .i64 0)).drop (0 + (cpuL r2 pc2).length) = [] := by rw [hl17]; rfl
   rw [hd17, List.append_nil] at f4
   simp only [List.take_zero, List.nil_append] at f4
   generalize hG : (w4.setCells (w.heap.size + 1) 0 (cpuL r2 pc2)).setCells (w.heap.size + 1 + 1) 0 [.int .i64 k2, .int .i64 n2] = G at *
   change Exit.then _ _ _ _ G
   have HG := h4_ f4 f5 usp oF
   clear f4 f5 usp oF hG oV oW vsp wsp e4 e5 d4 d5 o4 hl17 hsp3 hd17 hS1 hS0 HD
   go_wp2
   obtain ⟨f4, f5, usp, oF⟩ := HG.out
   refine bodyPost_ret (f1_ rfl _ _ (w.heap.size + 1) _ _ _ _ rfl f4 Tryz.underlying70 rfl (dv_ r2 pc2) (w.heap.size + 1 + 1) _ _ _ _ rfl f5 Tryz.underlying136 rfl (by kernel_rfl)) rfl ?_
   exact ⟨rfl, oF.mono (by rintro k hk (h | h); exact absurd h (by omega); exact h), usp⟩
end
section
open Go.RowKit
attribute [local go_sem] ak_ af_
attribute [local irreducible] cpuL
theorem up_ (s : Nat) (r : Nat → Int) (w : World) :
 Calls Tryz.prog 74 #[.pointer (some ⟨s, 0, none⟩), .agg (cpuL r 0).toArray] w fun e w' => e = .returned (.tuple #[.agg (cpuL r 0).toArray, .agg #[.int .i64 4, .int .i64 0]]) ∧ Below w.heap.size w w' := by
 have HC := h1_ (show (cpuL r 0)[(16 : Nat)]? = some (.int .i64 0) by unfold cpuL; rfl)
 go_enter Tryz.func74, Tryz.ntmps74
 go_upto_region 1 with fail
 refine ac_ fun V hV => ?_
 have vB : Below w.heap.size w V := by rw [← hV]; go_grown
 have vA : V.heap[w.heap.size]? = some (.cells (cpuL r 0).toArray 70 (0, 0)) := by rw [← hV]; exact ae_ (ae_ (heap_alloc_new _ _))
 have v4 : V.heap[w.heap.size + 1]? = some (.cells #[.int .i64 0, .int .i64 0, .int .i64 0, .int .i64 0, .int .i64 0, .int .i64 0, .int .i64 0, .int .i64 0, .int .i64 0, .int .i64 0, .int .i64 0, .int .i64 0, .int .i64 0, .int .i64 0, .int .i64 0, .int .i64 0, .int .i64 0] 70 (0, 0)) := by
  rw [← hV]; exact ae_ (block_at (by simp))
 have v5 : V.heap[w.heap.size + 1 + 1]? = some (.cells #[.int .i64 0, .int .i64 0] 136 (0, 0)) := by rw [← hV]; exact block_at (by simp)
 have d16 := ab_ vA 16 HC.out
 have HV := h4_ vB vA v4 v5
 clear hV vB vA v4 v5
 go_wp2_with (first
  | (refine wpList_load_row rfl 70 (.tmp 3) rfl w.heap.size rfl 70 (cpuL r 0).toArray (0, 0) _ HV.out.2.1 Tryz.underlying70 rfl (dv_ _ _) ?_)
  | ((with_reducible refine ad_ ?_); refine wpList_store_row rfl 70 _ _ rfl _ _ rfl rfl _ _ HV.out.2.2.1 (dv_ _ _) (by unfold cpuL; rfl) (gs_ _ _) ?_)
  | ((with_reducible refine ad_ ?_); refine wpList_store_row rfl 136 _ _ rfl _ _ rfl rfl _ _ ((setRow_other _ _ _ _ (by omega)).trans HV.out.2.2.2) (by kernel_rfl) (by rfl) (by simp [Value.oneCell']) ?_))
 obtain ⟨vB, vA, v4, v5⟩ := HV.out
 have e5 := (setRow_other V (w.heap.size + 1) (w.heap.size + 1 + 1) (cpuL r 0).toArray (by omega)).trans v5
 refine bodyPost_ret (f1_ rfl _ _ (w.heap.size + 1) _ _ _ _ rfl ((setRow_other _ _ _ _ (by omega)).trans (by apply setRow_heap; exact v4)) Tryz.underlying70 rfl (dv_ r 0) (w.heap.size + 1 + 1) _ _ _ _ rfl (by apply setRow_heap; exact e5) Tryz.underlying136 rfl (by kernel_rfl)) rfl ?_
 exact ⟨rfl, below_setRow (below_setRow vB (by omega) _) (by omega) _⟩
end
section
open Go.RowKit
attribute [local go_sem] ak_ af_
theorem uq_ (g s gp cap : Nat) (ps : List Part) (op a b c imm v : Int) (r : Nat → Int) (pc : Int) (r' : Nat → Int) (pc' k n : Int) (w : World) (hg : w.heap[g]? = some (.cells (runL s op a b c imm r pc r' pc' k n false).toArray 319 (0, 0)))
 (hA : AreasOk ps) (hsp : SpaceAt w s (.slice (some ⟨gp, 0, none⟩) ps.length cap) ps) (j : Nat) (hk : LastAt ps (r 15 - 8) j) (hin : r 15 - 8 - (ps[j]'hk.lt).at_ + 8 ≤ (ps[j]'hk.lt).size) (hm : (r 15 - 8).tmod 8 = 0) (hkind : (ps[j]'hk.lt).kind ≠ 0) :
 Calls Tryz.prog 277 #[.pointer (some ⟨g, 0, none⟩), .int .i64 v] w fun e w' => e = .returned (.tuple #[]) ∧ Only (fun x => x = g ∨ x = (ps[j]'hk.lt).blk) w w' ∧
  w'.heap[g]? = some (.cells (runL s op a b c imm r pc (upd r' 15 (r 15 - 8)) pc' k n false).toArray 319 (0, 0)) ∧ SpaceAt w' s (.slice (some ⟨gp, 0, none⟩) ps.length cap) (ps.set j ((ps[j]'hk.lt).put (r 15 - 8) (ct_ v))) := by
 have HG := h1_ hg
 have HS := h5_ hA hsp hin hm hkind
 have hwr : IntKind.i64.wrap (r 15 - 8) = r 15 - 8 := by
  have h1 := (hA.each _ (List.getElem_mem hk.lt))
  have h2 := hk.le
  exact IntWalk.i64_in _ (by omega)
 have HW := h1_ hwr
 clear hg hA hsp hin hm hkind hwr
 go_enter Tryz.func277, Tryz.ntmps277
 go_wp2
 refine wp_region_still_tail 12 (by kernel_rfl) (by kernel_rfl) ?_
 simp only [List.take_succ_cons, List.take_zero, List.drop_succ_cons, List.drop_zero]
 generalize hU : World.mk w.heap w.tape (w.drawn + 1) w.os w.output = U
 have hUV : U = w.drew := hU.symm
 have ug : U.heap[g]? = some (.cells (runL s op a b c imm r pc r' pc' k n false).toArray 319 (0, 0)) := by rw [hUV]; exact HG.out
 have uB : Below w.heap.size w U := by rw [hUV]; exact (Below.refl _ _).drew
 have u21 := ab_ ug 21 rfl
 have u38 := ab_ ug 38 rfl
 have f38 := ag_ ug 38
 have HU := h2_ uB ug
 have hwr := HW.out
 clear hU hUV ug uB
 repeat still_step
 refine wpStill_nil ?_
 clear hwr
 go_wp2_with fail
 generalize hV : U.setCell ⟨g, 38, none⟩ (.int .i64 (r 15 - 8)) = V
 have vg : V.heap[g]? = some (.cells (runL s op a b c imm r pc (upd r' 15 (r 15 - 8)) pc' k n false).toArray 319 (0, 0)) := by
  rw [← hV]; exact aj_ HU.out.2 38 (.int .i64 (r 15 - 8))
 have vo : Only (· = g) w V := by rw [← hV]; exact (Only.of_below HU.out.1).setCell _ _ (.inl rfl)
 have HV := h2_ vg vo
 clear hV vg vo u21 u38 f38
 go_at_call 270
 refine (rz_ g s gp cap ps op a b c imm (r 15 - 8) v r pc _ pc' k n _ HV.out.1 HS.out.1 (HS.out.2.1.kept HV.out.2 (by rintro x hx rfl; exact HS.out.2.1.not_cells HG.out (by decide) (by decide) (by decide) hx)) j hk HS.out.2.2.1 HS.out.2.2.2.1 HS.out.2.2.2.2).mono ?_
 rintro e w3 ⟨rfl, ho3, hg3, hsp3⟩
 have H3 := h3_ ho3 hg3 hsp3
 clear ho3 hg3 hsp3
 go_wp2
 go_end0
 exact ⟨rfl, (HV.out.2.mono (fun _ _ h => .inl h)).trans H3.out.1, H3.out.2.1, H3.out.2.2⟩
theorem ur_ (g s : Nat) (op a b c imm : Int) (r : Nat → Int) (pc : Int) (r' : Nat → Int) (pc' k n : Int) (w : World) (hg : w.heap[g]? = some (.cells (runL s op a b c imm r pc r' pc' k n false).toArray 319 (0, 0))) :
 Calls Tryz.prog 248 #[.pointer (some ⟨g, 0, none⟩)] w fun e w' => e = .returned (.tuple #[]) ∧ w' = w := by
 clear hg
 go_enter Tryz.func248, Tryz.ntmps248
 go_wp2
 go_end0
 exact ⟨rfl, rfl⟩
theorem se_ (g s gp cap : Nat) (ps : List Part) (op a b c imm : Int) (r : Nat → Int) (pc : Int) (r' : Nat → Int) (pc' k n : Int) (w : World) (hp8 : IntKind.i64.wrap (pc + 8) = pc + 8) (hpc : IntKind.i64.wrap (pc + imm) = pc + imm) (hg : w.heap[g]? = some (.cells (runL s op a b c imm r pc r' pc' k n false).toArray 319 (0, 0)))
 (hA : AreasOk ps) (hsp : SpaceAt w s (.slice (some ⟨gp, 0, none⟩) ps.length cap) ps) (j : Nat) (hk : LastAt ps (r 15 - 8) j) (hin : r 15 - 8 - (ps[j]'hk.lt).at_ + 8 ≤ (ps[j]'hk.lt).size) (hm : (r 15 - 8).tmod 8 = 0) (hkind : (ps[j]'hk.lt).kind ≠ 0) :
 Calls Tryz.prog 276 #[.pointer (some ⟨g, 0, none⟩)] w fun e w' => e = .returned (.tuple #[]) ∧ Only (fun x => x = g ∨ x = (ps[j]'hk.lt).blk) w w' ∧
  w'.heap[g]? = some (.cells (runL s op a b c imm r pc (upd r' 15 (r 15 - 8)) (pc + imm) k n false).toArray 319 (0, 0)) ∧ SpaceAt w' s (.slice (some ⟨gp, 0, none⟩) ps.length cap) (ps.set j ((ps[j]'hk.lt).put (r 15 - 8) (ct_ (pc + 8)))) := by
 have HG := h1_ hg
 have HS := h5_ hA hsp hin hm hkind
 have c22 := ab_ hg 22 rfl
 have HP := h1_ hpc
 clear hg hA hsp hin hm hkind hpc
 go_enter Tryz.func276, Tryz.ntmps276
 go_wp2_with fail
 go_at_call 277
 refine (uq_ g s gp cap ps op a b c imm (pc + 8) r pc r' pc' k n _ HG.out HS.out.1 HS.out.2.1 j hk HS.out.2.2.1 HS.out.2.2.2.1 HS.out.2.2.2.2).mono ?_
 rintro e w1 ⟨rfl, ho1, hg1, hsp1⟩
 have H1 := h3_ ho1 hg1 hsp1
 clear ho1 hg1 hsp1 c22 hp8
 go_wp2_with fail
 go_at_call 273
 refine (uc_ g s op a b c imm r pc _ pc' k n _ HP.out H1.out.2.1).mono ?_
 rintro e w2 ⟨rfl, ho2, hg2⟩
 have H2 := h2_ ho2 hg2
 clear ho2 hg2
 go_wp2
 go_end0
 exact ⟨rfl, H1.out.1.trans (H2.out.1.mono (fun _ _ h => .inl h)), H2.out.2, H1.out.2.2.kept H2.out.1 (by rintro x hx rfl; exact H1.out.2.2.not_cells H1.out.2.1 (by decide) (by decide) (by decide) hx)⟩
end
section
open Go.RowKit
attribute [local go_sem] ak_ af_
theorem w7_ (s gp cap : Nat) (ps : List Part) (a b c imm : Int) (r : Nat → Int) (pc : Int) :
 uo_ s gp cap 248 1 a b c imm r pc r (pc + 8) 0 0 ps ps (fun _ => False) := by
 intro W g hg hsp
 refine (ur_ g s 1 a b c imm r pc r (pc + 8) 0 0 W hg).mono ?_
 rintro e w' ⟨rfl, rfl⟩
 exact ⟨rfl, Only.refl _ _, hg, hsp⟩
theorem us_ (s gp cap : Nat) (ps : List Part) (a b c imm : Int) (r : Nat → Int) (pc : Int) (hA : AreasOk ps) (hp8 : IntKind.i64.wrap (pc + 8) = pc + 8) (hpc : IntKind.i64.wrap (pc + imm) = pc + imm)
 (j : Nat) (hk : LastAt ps (r 15 - 8) j) (hin : r 15 - 8 - (ps[j]'hk.lt).at_ + 8 ≤ (ps[j]'hk.lt).size) (hm : (r 15 - 8).tmod 8 = 0) (hkind : (ps[j]'hk.lt).kind ≠ 0) :
 uo_ s gp cap 276 22 a b c imm r pc (upd r 15 (r 15 - 8)) (pc + imm) 0 0 ps (ps.set j ((ps[j]'hk.lt).put (r 15 - 8) (ct_ (pc + 8)))) (fun x => x = (ps[j]'hk.lt).blk) := by
 intro W g hg hsp
 exact se_ g s gp cap ps 22 a b c imm r pc r (pc + 8) 0 0 W hp8 hpc hg hA hsp j hk hin hm hkind
theorem vidx1 (w : World) : (Instr.index 321 (.agg j0_) (.int .i64 1)).run Tryz.prog w = .ok (.func (.func 248) #[] #[]) w := by kernel_rfl
theorem vidx22 (w : World) : (Instr.index 321 (.agg j0_) (.int .i64 22)).run Tryz.prog w = .ok (.func (.func 276) #[] #[]) w := by kernel_rfl
end
section
open Go.RowKit
attribute [local go_sem] ak_ af_
def lx_ (n : Int) : Prop := -2147483648 ≤ n ∧ n ≤ 2147483647
theorem qn_ (n : Int) (r : Bool) (w : World) (hr : r = true ↔ lx_ n) :
 Calls Tryz.prog 101 #[.int .i64 n, .int .i64 32, .bool true] w fun e w' => e = .returned (.bool r) ∧ Below w.heap.size w w' := by
 have hd : n / 2147483648 = 0 ∨ n / 2147483648 = -1 ↔ lx_ n := by unfold lx_; omega
 rw [← hd] at hr
 obtain ⟨q, hq⟩ : ∃ q, q = n / 2147483648 := ⟨_, rfl⟩
 rw [← hq] at hr
 by_cases h0 : q = 0
 · rw [hr.2 (.inl h0)]
   go_enter Tryz.func101, Tryz.ntmps101
   rw [hq] at h0
   go_wp2
   go_ret
   exact ⟨by simp, Below.refl _ _⟩
 · by_cases h1 : q = -1
   · rw [hr.2 (.inr h1)]
     rw [hq] at h0 h1
     go_enter Tryz.func101, Tryz.ntmps101
     go_wp2
     go_ret
     exact ⟨by simp, Below.refl _ _⟩
   · have : r = false := by
      cases r with
      | false => rfl
      | true => rcases hr.1 rfl with h | h <;> contradiction
     rw [this]
     rw [hq] at h0 h1
     have b0 : (n / 2147483648 == 0) = false := by simpa using h0
     have b1 : (n / 2147483648 == -1) = false := by simpa using h1
     go_enter Tryz.func101, Tryz.ntmps101
     go_wp2
     go_ret
     exact ⟨by simp [b0, b1], Below.refl _ _⟩
def ImmG (op imm : Int) : Prop :=
 if op = 19 ∨ op = 20 ∨ op = 21 ∨ op = 24 ∨ op = 25 then imm.tmod 8 = 0 ∧ lx_ imm else if op = 22 then imm.tmod 8 = 0 ∧ -512 ≤ imm ∧ imm ≤ 504 else if op = 30 then 0 ≤ imm ∧ imm < 8 else lx_ imm
theorem ImmG.fit {op imm : Int} (h : ImmG op imm) : lx_ imm := by
 unfold ImmG at h
 unfold lx_ at *
 split at h
 · exact h.2
 · split at h
   · omega
   · split at h
     · omega
     · exact h
theorem ut_ (op a b c imm : Int) (r : Bool) (w : World) (hr : r = true ↔ ImmG op imm) :
 Calls Tryz.prog 97 #[insV op a b c imm] w fun e w' => e = .returned (.bool r) ∧ Below w.heap.size w w' := by
 unfold insV
 unfold ImmG at hr
 by_cases hj : op = 19 ∨ op = 20 ∨ op = 21 ∨ op = 24 ∨ op = 25
 · rw [if_pos hj] at hr
   by_cases hm : imm.tmod 8 = 0
   · have hr' : r = true ↔ lx_ imm := by rw [hr]; exact ⟨fun h => h.2, fun h => ⟨hm, h⟩⟩
     clear hr
     rcases hj with rfl | rfl | rfl | rfl | rfl
     all_goals
      go_enter Tryz.func97, Tryz.ntmps97
      go_wp2_with (go_at_call 101; refine (qn_ _ r _ hr').mono ?_; rintro e w1 ⟨rfl, hb1⟩; have HB1 := h1_ hb1; clear hb1)
      go_ret
      exact ⟨by simp, aw_ ((Below.refl _ _).alloc (Nat.le_refl _) _) HB1.out⟩
   · have hf : r = false := by
      cases r with
      | false => rfl
      | true => exact absurd (hr.1 rfl).1 hm
     have hm' : (imm.tmod 8 == 0) = false := by simpa using hm
     rw [hf]
     clear hr
     rcases hj with rfl | rfl | rfl | rfl | rfl
     all_goals
      go_enter Tryz.func97, Tryz.ntmps97
      go_wp2
      go_ret
      exact ⟨by simp, (Below.refl _ _).alloc (Nat.le_refl _) _⟩
 · rw [if_neg hj] at hr
   have n19 : (op == 19) = false := by simp; omega
   have n20 : (op == 20) = false := by simp; omega
   have n21 : (op == 21) = false := by simp; omega
   have n24 : (op == 24) = false := by simp; omega
   have n25 : (op == 25) = false := by simp; omega
   by_cases h22 : op = 22
   · rw [if_pos h22] at hr
     subst h22
     clear n19 n20 n21 n24 n25
     by_cases hm : imm.tmod 8 = 0
     · by_cases h1 : -512 ≤ imm
       · have hr' : r = decide (imm ≤ 504) := by
          have : (r = true) ↔ (decide (imm ≤ 504) = true) := by rw [hr]; simp [hm, h1]
          cases r <;> cases hd : decide (imm ≤ 504) <;> simp_all
         rw [hr']
         clear hr hr' hj
         go_enter Tryz.func97, Tryz.ntmps97
         go_wp2
         go_ret
         exact ⟨by simp, (Below.refl _ _).alloc (Nat.le_refl _) _⟩
       · have hf : r = false := by
          cases r with
          | false => rfl
          | true => exact absurd (hr.1 rfl).2.1 h1
         rw [hf]
         clear hr hj
         go_enter Tryz.func97, Tryz.ntmps97
         go_wp2
         go_ret
         exact ⟨by simp, (Below.refl _ _).alloc (Nat.le_refl _) _⟩
     · have hf : r = false := by
        cases r with
        | false => rfl
        | true => exact absurd (hr.1 rfl).1 hm
       have hm' : (imm.tmod 8 == 0) = false := by simpa using hm
       rw [hf]
       clear hr hj
       go_enter Tryz.func97, Tryz.ntmps97
       go_wp2
       go_ret
       exact ⟨by simp, (Below.refl _ _).alloc (Nat.le_refl _) _⟩
   · rw [if_neg h22] at hr
     have n22 : (op == 22) = false := by simpa using h22
     clear hj h22
     by_cases h30 : op = 30
     · rw [if_pos h30] at hr
       subst h30
       clear n19 n20 n21 n24 n25 n22
       by_cases h0 : 0 ≤ imm
       · have hr' : r = decide (imm < 8) := by
          have : (r = true) ↔ (decide (imm < 8) = true) := by rw [hr]; simp [h0]
          cases r <;> cases hd : decide (imm < 8) <;> simp_all
         rw [hr']
         clear hr hr'
         go_enter Tryz.func97, Tryz.ntmps97
         go_wp2
         go_ret
         exact ⟨by simp, (Below.refl _ _).alloc (Nat.le_refl _) _⟩
       · have hf : r = false := by
          cases r with
          | false => rfl
          | true => exact absurd (hr.1 rfl).1 h0
         rw [hf]
         clear hr
         go_enter Tryz.func97, Tryz.ntmps97
         go_wp2
         go_ret
         exact ⟨by simp, (Below.refl _ _).alloc (Nat.le_refl _) _⟩
     · rw [if_neg h30] at hr
       have n30 : (op == 30) = false := by simpa using h30
       clear h30
       go_enter Tryz.func97, Tryz.ntmps97
       go_wp2_with (go_at_call 101; refine (qn_ _ r _ hr).mono ?_; rintro e w1 ⟨rfl, hb1⟩; have HB1 := h1_ hb1; clear hb1)
       go_ret
       exact ⟨rfl, aw_ ((Below.refl _ _).alloc (Nat.le_refl _) _) HB1.out⟩
end
section
open Go.RowKit
attribute [local go_sem] ak_ af_
def OkF (F : ByteArray) (x : UInt8) (n : Int) : Prop := (0 ≤ Lib.indexByte F.data.toList x ∨ n = 0) ∧ 0 ≤ n ∧ n ≤ 15
structure InsG (F : ByteArray) (op a b c imm : Int) : Prop where
 lo : 0 < op
 hi : op < 31
 im : ImmG op imm
 fa : OkF F 65 a
 fb : OkF F 66 b
 fc : OkF F 67 c
 fi : 0 ≤ Lib.indexByte F.data.toList 73 ∨ imm = 0
theorem no_r {r : Bool} {P : Prop} (hr : r = true ↔ P) (h : ¬ P) : r = false := by
 cases r with
 | false => rfl
 | true => exact absurd (hr.1 rfl) h
theorem m5_ (op a b c imm : Int) (r : Bool) (w : World) (hf : Forms w) (hr : r = true ↔ InsG (opF op.toNat) op a b c imm) :
 Calls Tryz.prog 54 #[insV op a b c imm] w fun e w' => e = .returned (.bool r) ∧ Below w.heap.size w w' := by
 have h0 := hf.pos
 have HH := h2_ hr hf
 clear hr hf
 have hcv := fun (w : World) (C : Array Value) (n c : Nat) => Lib.run_convert_bytes_const (P := Tryz.prog) w 75 5 C n c Tryz.underlying75 Tryz.underlying5
 unfold insV
 by_cases hlo : 0 < op
 case neg =>
  have hle : op ≤ 0 := by omega
  go_enter Tryz.func54, Tryz.ntmps54
  go_wp2
  go_ret
  rw [no_r HH.out.1 (fun h => by have := h.lo; omega)]
  exact ⟨rfl, (Below.refl _ _).alloc (Nat.le_refl _) _⟩
 by_cases hhi : op < 31
 case neg =>
  have hge : 31 ≤ op := by omega
  go_enter Tryz.func54, Tryz.ntmps54
  go_wp2
  go_ret
  rw [no_r HH.out.1 (fun h => by have := h.hi; omega)]
  exact ⟨rfl, (Below.refl _ _).alloc (Nat.le_refl _) _⟩
 have nlo : ¬ op ≤ 0 := by omega
 have nhi : ¬ 31 ≤ op := by omega
 by_cases him : ImmG op imm
 case neg =>
  have him' : (false : Bool) = true ↔ ImmG op imm := ⟨(by simp), fun h => absurd h him⟩
  go_enter Tryz.func54, Tryz.ntmps54
  go_wp2_with fail
  go_at_call 97
  refine (ut_ _ _ _ _ _ false _ him').mono ?_
  rintro e w1 ⟨rfl, hb1⟩
  have HB1 := h1_ hb1
  clear hb1
  go_wp2
  go_ret
  rw [no_r HH.out.1 (fun h => him h.im)]
  exact ⟨rfl, aw_ ((Below.refl _ _).alloc (Nat.le_refl _) _) HB1.out⟩
 have HM := h1_ him
 clear him
 obtain ⟨F, hFe⟩ : ∃ F, F = opF op.toNat := ⟨_, rfl⟩
 have hF := HH.out.2.get op.toNat (by omega)
 rw [← hFe] at hF
 have HR0 := h2_ HH.out.1 hFe
 clear hFe
 go_enter Tryz.func54, Tryz.ntmps54
 go_wp2_with fail
 go_at_call 97
 refine (ut_ _ _ _ _ _ true _ ⟨fun _ => HM.out, fun _ => rfl⟩).mono ?_
 rintro e w1 ⟨rfl, hb1⟩
 have hn1 := b9_ hb1
 have hsz1 := eo_ hb1
 have hb01 := aw_ ((Below.refl _ _).alloc (Nat.le_refl _) _) hb1
 have hF1 := (hb01.cell (p := ⟨0, op.toNat * 4 + 1, none⟩) h0).trans hF
 have HB1 := h2_ hb01 hn1
 clear hb1 hb01 hn1
 go_wp2
 have hW2 := heap_alloc_new w1 (.cells #[.int .u8 65, .int .u8 66, .int .u8 67, .int .u8 73] 5 (4, 5))
 have hF2 : (w1.alloc (.cells #[.int .u8 65, .int .u8 66, .int .u8 67, .int .u8 73] 5 (4, 5))).cell? ⟨0, op.toNat * 4 + 1, none⟩ = some (.string F) := by
  rw [World.cell?_alloc_past _ _ _ (by omega)]; exact hF1
 have hW1 := ae_ (o' := .cells #[.int .u8 65, .int .u8 66, .int .u8 67, .int .u8 73] 5 (4, 5)) HB1.out.2
 have HW := h4_ hF2 hW1 hW2 (HB1.out.1.alloc (by omega) (.cells #[.int .u8 65, .int .u8 66, .int .u8 67, .int .u8 73] 5 (4, 5)))
 clear hF1 hF2 hW1 hW2
 go_loopw [23] (fun i wr => ∃ k : Nat, k ≤ 4 ∧ i = .int .i64 k ∧ Below (w1.alloc (.cells #[.int .u8 65, .int .u8 66, .int .u8 67, .int .u8 73] 5 (4, 5))).heap.size (w1.alloc (.cells #[.int .u8 65, .int .u8 66, .int .u8 67, .int .u8 73] 5 (4, 5))) wr ∧ (0 < k → OkF F 65 a) ∧ (1 < k → OkF F 66 b) ∧ (2 < k → OkF F 67 c) ∧ (3 < k → 0 ≤ Lib.indexByte F.data.toList 73 ∨ imm = 0)) (fun i _ => 4 - (RowKit.intOf i).toNat)
 case atStart => exact ⟨0, by omega, rfl, Below.refl _ _, by omega, by omega, by omega, by omega⟩
 case round =>
  obtain ⟨k, hk, rfl, hb, hok⟩ := hrel
  have g1 := at_b hb HW.out.2.1
  have g2 := at_b hb HW.out.2.2.1
  have gF : wr.cell? ⟨0, op.toNat * 4 + 1, none⟩ = some (.string F) := (hb.cell (p := ⟨0, op.toNat * 4 + 1, none⟩) (by simp)).trans HW.out.1
  (have c0 := ab_ g1 0 rfl; have f0 := ag_ g1 0; have c1 := ab_ g1 1 rfl; have f1 := ag_ g1 1; have c2 := ab_ g1 2 rfl; have f2 := ag_ g1 2; have c3 := ab_ g1 3 rfl; have f3 := ag_ g1 3; have c4 := ab_ g1 4 rfl; have f4 := ag_ g1 4)
  have x0 := ab_ g2 0 rfl
  have x1 := ab_ g2 1 rfl
  have x2 := ab_ g2 2 rfl
  have x3 := ab_ g2 3 rfl
  have HR := h3_ hb hok (HW.out.2.2.2.trans (hb.mono (by simp; omega)))
  clear hb g1 g2 hok
  have hcases : k = 0 ∨ k = 1 ∨ k = 2 ∨ k = 3 ∨ k = 4 := by omega
  rcases hcases with rfl | rfl | rfl | rfl | rfl
  · by_cases hu : 0 ≤ Lib.indexByte F.data.toList 65
    · by_cases v0 : 0 ≤ a
      · by_cases v1 : a ≤ 15
        · have HO := h1_ (show OkF F 65 a from ⟨.inl hu, v0, v1⟩)
          go_wp2_with (first
           | (go_at_call 98; refine (bs_ w.heap.size 0 (by omega) _).mono ?_; rintro e w2 ⟨rfl, rfl⟩)
           | (go_at_call 99; refine (Tryz.strings_IndexByte _ _ _).mono ?_; rintro e w3 ⟨rfl, rfl⟩))
          all_goals first | (exfalso; omega) | (refine ⟨⟨1, by omega, rfl, HR.out.1, fun _ => HO.out, by omega, by omega, by omega⟩, ?_⟩; simp [RowKit.intOf])
        · have v2 : 15 < a := by omega
          have hrf : r = false := no_r (HR0.out.2 ▸ HR0.out.1) (fun h => v1 h.fa.2.2)
          have HRF := h1_ hrf
          clear hrf
          go_wp2_with (first
           | (go_at_call 98; refine (bs_ w.heap.size 0 (by omega) _).mono ?_; rintro e w2 ⟨rfl, rfl⟩)
           | (go_at_call 99; refine (Tryz.strings_IndexByte _ _ _).mono ?_; rintro e w3 ⟨rfl, rfl⟩))
          all_goals first | (exfalso; omega) | (go_ret; rw [HRF.out]; exact ⟨rfl, HR.out.2.2⟩)
      · have v2 : a < 0 := by omega
        have hrf : r = false := no_r (HR0.out.2 ▸ HR0.out.1) (fun h => v0 h.fa.2.1)
        have HRF := h1_ hrf
        clear hrf
        go_wp2_with (first
         | (go_at_call 98; refine (bs_ w.heap.size 0 (by omega) _).mono ?_; rintro e w2 ⟨rfl, rfl⟩)
         | (go_at_call 99; refine (Tryz.strings_IndexByte _ _ _).mono ?_; rintro e w3 ⟨rfl, rfl⟩))
        all_goals first | (exfalso; omega) | (go_ret; rw [HRF.out]; exact ⟨rfl, HR.out.2.2⟩)
    · have hu2 : decide (0 ≤ Lib.indexByte F.data.toList 65) = false := by simpa using hu
      by_cases v0 : a = 0
      · have HO := h1_ (show OkF F 65 a from ⟨.inr v0, by omega, by omega⟩)
        have hz : (a != 0) = false := by simpa using v0
        have v1 : 0 ≤ a := by omega
        have v2 : a ≤ 15 := by omega
        clear v0
        go_wp2_with (first
         | (go_at_call 98; refine (bs_ w.heap.size 0 (by omega) _).mono ?_; rintro e w2 ⟨rfl, rfl⟩)
         | (go_at_call 99; refine (Tryz.strings_IndexByte _ _ _).mono ?_; rintro e w3 ⟨rfl, rfl⟩))
        all_goals first | (exfalso; omega) | (refine ⟨⟨1, by omega, rfl, HR.out.1, fun _ => HO.out, by omega, by omega, by omega⟩, ?_⟩; simp [RowKit.intOf])
      · have hz : (a != 0) = true := by simpa using v0
        have hrf : r = false := no_r (HR0.out.2 ▸ HR0.out.1) (fun h => (h.fa.1).elim (fun x => hu x) (fun x => v0 x))
        have HRF := h1_ hrf
        clear hrf
        go_wp2_with (first
         | (go_at_call 98; refine (bs_ w.heap.size 0 (by omega) _).mono ?_; rintro e w2 ⟨rfl, rfl⟩)
         | (go_at_call 99; refine (Tryz.strings_IndexByte _ _ _).mono ?_; rintro e w3 ⟨rfl, rfl⟩))
        all_goals first | (exfalso; omega) | (go_ret; rw [HRF.out]; exact ⟨rfl, HR.out.2.2⟩)
  · by_cases hu : 0 ≤ Lib.indexByte F.data.toList 66
    · by_cases v0 : 0 ≤ b
      · by_cases v1 : b ≤ 15
        · have HO := h1_ (show OkF F 66 b from ⟨.inl hu, v0, v1⟩)
          go_wp2_with (first
           | (go_at_call 98; refine (bs_ w.heap.size 1 (by omega) _).mono ?_; rintro e w2 ⟨rfl, rfl⟩)
           | (go_at_call 99; refine (Tryz.strings_IndexByte _ _ _).mono ?_; rintro e w3 ⟨rfl, rfl⟩))
          all_goals first | (exfalso; omega) | (refine ⟨⟨2, by omega, rfl, HR.out.1, fun _ => HR.out.2.1.1 (by omega), fun _ => HO.out, by omega, by omega⟩, ?_⟩; simp [RowKit.intOf])
        · have v2 : 15 < b := by omega
          have hrf : r = false := no_r (HR0.out.2 ▸ HR0.out.1) (fun h => v1 h.fb.2.2)
          have HRF := h1_ hrf
          clear hrf
          go_wp2_with (first
           | (go_at_call 98; refine (bs_ w.heap.size 1 (by omega) _).mono ?_; rintro e w2 ⟨rfl, rfl⟩)
           | (go_at_call 99; refine (Tryz.strings_IndexByte _ _ _).mono ?_; rintro e w3 ⟨rfl, rfl⟩))
          all_goals first | (exfalso; omega) | (go_ret; rw [HRF.out]; exact ⟨rfl, HR.out.2.2⟩)
      · have v2 : b < 0 := by omega
        have hrf : r = false := no_r (HR0.out.2 ▸ HR0.out.1) (fun h => v0 h.fb.2.1)
        have HRF := h1_ hrf
        clear hrf
        go_wp2_with (first
         | (go_at_call 98; refine (bs_ w.heap.size 1 (by omega) _).mono ?_; rintro e w2 ⟨rfl, rfl⟩)
         | (go_at_call 99; refine (Tryz.strings_IndexByte _ _ _).mono ?_; rintro e w3 ⟨rfl, rfl⟩))
        all_goals first | (exfalso; omega) | (go_ret; rw [HRF.out]; exact ⟨rfl, HR.out.2.2⟩)
    · have hu2 : decide (0 ≤ Lib.indexByte F.data.toList 66) = false := by simpa using hu
      by_cases v0 : b = 0
      · have HO := h1_ (show OkF F 66 b from ⟨.inr v0, by omega, by omega⟩)
        have hz : (b != 0) = false := by simpa using v0
        have v1 : 0 ≤ b := by omega
        have v2 : b ≤ 15 := by omega
        clear v0
        go_wp2_with (first
         | (go_at_call 98; refine (bs_ w.heap.size 1 (by omega) _).mono ?_; rintro e w2 ⟨rfl, rfl⟩)
         | (go_at_call 99; refine (Tryz.strings_IndexByte _ _ _).mono ?_; rintro e w3 ⟨rfl, rfl⟩))
        all_goals first | (exfalso; omega) | (refine ⟨⟨2, by omega, rfl, HR.out.1, fun _ => HR.out.2.1.1 (by omega), fun _ => HO.out, by omega, by omega⟩, ?_⟩; simp [RowKit.intOf])
      · have hz : (b != 0) = true := by simpa using v0
        have hrf : r = false := no_r (HR0.out.2 ▸ HR0.out.1) (fun h => (h.fb.1).elim (fun x => hu x) (fun x => v0 x))
        have HRF := h1_ hrf
        clear hrf
        go_wp2_with (first
         | (go_at_call 98; refine (bs_ w.heap.size 1 (by omega) _).mono ?_; rintro e w2 ⟨rfl, rfl⟩)
         | (go_at_call 99; refine (Tryz.strings_IndexByte _ _ _).mono ?_; rintro e w3 ⟨rfl, rfl⟩))
        all_goals first | (exfalso; omega) | (go_ret; rw [HRF.out]; exact ⟨rfl, HR.out.2.2⟩)
  · by_cases hu : 0 ≤ Lib.indexByte F.data.toList 67
    · by_cases v0 : 0 ≤ c
      · by_cases v1 : c ≤ 15
        · have HO := h1_ (show OkF F 67 c from ⟨.inl hu, v0, v1⟩)
          go_wp2_with (first
           | (go_at_call 98; refine (bs_ w.heap.size 2 (by omega) _).mono ?_; rintro e w2 ⟨rfl, rfl⟩)
           | (go_at_call 99; refine (Tryz.strings_IndexByte _ _ _).mono ?_; rintro e w3 ⟨rfl, rfl⟩))
          all_goals first | (exfalso; omega) | (refine ⟨⟨3, by omega, rfl, HR.out.1, fun _ => HR.out.2.1.1 (by omega), fun _ => HR.out.2.1.2.1 (by omega), fun _ => HO.out, by omega⟩, ?_⟩; simp [RowKit.intOf])
        · have v2 : 15 < c := by omega
          have hrf : r = false := no_r (HR0.out.2 ▸ HR0.out.1) (fun h => v1 h.fc.2.2)
          have HRF := h1_ hrf
          clear hrf
          go_wp2_with (first
           | (go_at_call 98; refine (bs_ w.heap.size 2 (by omega) _).mono ?_; rintro e w2 ⟨rfl, rfl⟩)
           | (go_at_call 99; refine (Tryz.strings_IndexByte _ _ _).mono ?_; rintro e w3 ⟨rfl, rfl⟩))
          all_goals first | (exfalso; omega) | (go_ret; rw [HRF.out]; exact ⟨rfl, HR.out.2.2⟩)
      · have v2 : c < 0 := by omega
        have hrf : r = false := no_r (HR0.out.2 ▸ HR0.out.1) (fun h => v0 h.fc.2.1)
        have HRF := h1_ hrf
        clear hrf
        go_wp2_with (first
         | (go_at_call 98; refine (bs_ w.heap.size 2 (by omega) _).mono ?_; rintro e w2 ⟨rfl, rfl⟩)
         | (go_at_call 99; refine (Tryz.strings_IndexByte _ _ _).mono ?_; rintro e w3 ⟨rfl, rfl⟩))
        all_goals first | (exfalso; omega) | (go_ret; rw [HRF.out]; exact ⟨rfl, HR.out.2.2⟩)
    · have hu2 : decide (0 ≤ Lib.indexByte F.data.toList 67) = false := by simpa using hu
      by_cases v0 : c = 0
      · have HO := h1_ (show OkF F 67 c from ⟨.inr v0, by omega, by omega⟩)
        have hz : (c != 0) = false := by simpa using v0
        have v1 : 0 ≤ c := by omega
        have v2 : c ≤ 15 := by omega
        clear v0
        go_wp2_with (first
         | (go_at_call 98; refine (bs_ w.heap.size 2 (by omega) _).mono ?_; rintro e w2 ⟨rfl, rfl⟩)
         | (go_at_call 99; refine (Tryz.strings_IndexByte _ _ _).mono ?_; rintro e w3 ⟨rfl, rfl⟩))
        all_goals first | (exfalso; omega) | (refine ⟨⟨3, by omega, rfl, HR.out.1, fun _ => HR.out.2.1.1 (by omega), fun _ => HR.out.2.1.2.1 (by omega), fun _ => HO.out, by omega⟩, ?_⟩; simp [RowKit.intOf])
      · have hz : (c != 0) = true := by simpa using v0
        have hrf : r = false := no_r (HR0.out.2 ▸ HR0.out.1) (fun h => (h.fc.1).elim (fun x => hu x) (fun x => v0 x))
        have HRF := h1_ hrf
        clear hrf
        go_wp2_with (first
         | (go_at_call 98; refine (bs_ w.heap.size 2 (by omega) _).mono ?_; rintro e w2 ⟨rfl, rfl⟩)
         | (go_at_call 99; refine (Tryz.strings_IndexByte _ _ _).mono ?_; rintro e w3 ⟨rfl, rfl⟩))
        all_goals first | (exfalso; omega) | (go_ret; rw [HRF.out]; exact ⟨rfl, HR.out.2.2⟩)
  · by_cases hu : 0 ≤ Lib.indexByte F.data.toList 73
    · have HO := h1_ (show 0 ≤ Lib.indexByte F.data.toList 73 ∨ imm = 0 from .inl hu)
      go_wp2_with (first
       | (go_at_call 98; refine (bs_ w.heap.size 3 (by omega) _).mono ?_; rintro e w2 ⟨rfl, rfl⟩)
       | (go_at_call 99; refine (Tryz.strings_IndexByte _ _ _).mono ?_; rintro e w3 ⟨rfl, rfl⟩))
      all_goals first | (exfalso; omega) | (refine ⟨⟨4, by omega, rfl, HR.out.1, fun _ => HR.out.2.1.1 (by omega), fun _ => HR.out.2.1.2.1 (by omega), fun _ => HR.out.2.1.2.2.1 (by omega), fun _ => HO.out⟩, ?_⟩; simp [RowKit.intOf])
    · have hu2 : decide (0 ≤ Lib.indexByte F.data.toList 73) = false := by simpa using hu
      by_cases v0 : imm = 0
      · have HO := h1_ (show 0 ≤ Lib.indexByte F.data.toList 73 ∨ imm = 0 from .inr v0)
        have hz : (imm != 0) = false := by simpa using v0
        clear v0
        go_wp2_with (first
         | (go_at_call 98; refine (bs_ w.heap.size 3 (by omega) _).mono ?_; rintro e w2 ⟨rfl, rfl⟩)
         | (go_at_call 99; refine (Tryz.strings_IndexByte _ _ _).mono ?_; rintro e w3 ⟨rfl, rfl⟩))
        all_goals first | (exfalso; omega) | (refine ⟨⟨4, by omega, rfl, HR.out.1, fun _ => HR.out.2.1.1 (by omega), fun _ => HR.out.2.1.2.1 (by omega), fun _ => HR.out.2.1.2.2.1 (by omega), fun _ => HO.out⟩, ?_⟩; simp [RowKit.intOf])
      · have hz : (imm != 0) = true := by simpa using v0
        have hrf : r = false := no_r (HR0.out.2 ▸ HR0.out.1) (fun h => (h.fi).elim (fun x => hu x) (fun x => v0 x))
        have HRF := h1_ hrf
        clear hrf
        go_wp2_with (first
         | (go_at_call 98; refine (bs_ w.heap.size 3 (by omega) _).mono ?_; rintro e w2 ⟨rfl, rfl⟩)
         | (go_at_call 99; refine (Tryz.strings_IndexByte _ _ _).mono ?_; rintro e w3 ⟨rfl, rfl⟩))
        all_goals first | (exfalso; omega) | (go_ret; rw [HRF.out]; exact ⟨rfl, HR.out.2.2⟩)
  · go_wp2
    go_ret
    rw [HR0.out.1.2 (HR0.out.2 ▸ ⟨hlo, hhi, HM.out, HR.out.2.1.1 (by omega), HR.out.2.1.2.1 (by omega), HR.out.2.1.2.2.1 (by omega), HR.out.2.1.2.2.2 (by omega)⟩)]
    exact ⟨rfl, HR.out.2.2⟩
end
section
open Go.RowKit
attribute [local go_sem] ak_ af_
theorem w8_ (x0 x1 x2 x3 x4 x5 x6 x7 : UInt8) (imm : Int) (w : World) (hf : Forms w) (himm : or_ (leN [x4, x5, x6, x7]) = imm)
 (h : InsG (opF x0.toNat) (x0.toNat : Int) (x1.toNat : Int) (x2.toNat : Int) (x3.toNat : Int) imm) :
 Calls Tryz.prog 247 #[.string ⟨#[x0, x1, x2, x3, x4, x5, x6, x7]⟩, .int .i64 0] w fun e w' =>
  Below w.heap.size w w' ∧ e = .returned (.tuple #[insV x0.toNat x1.toNat x2.toNat x3.toNat imm, .bool true]) := by
 have HI := h1_ himm
 have HH := h1_ h
 have HF := h1_ hf
 have hpos := hf.pos
 have n0 := x0.toNat_lt
 have n1 := x1.toNat_lt
 have n2 := x2.toNat_lt
 have n3 := x3.toNat_lt
 clear himm h hf
 unfold insV at *
 go_enter Tryz.func247, Tryz.ntmps247
 go_wp2_with (go_at_call 334; refine (get4 [x0, x1, x2, x3, x4, x5, x6, x7] _ rfl).mono ?_; rintro e w1 ⟨hb1, rfl⟩; rw [show List.drop 4 [x0, x1, x2, x3, x4, x5, x6, x7] = [x4, x5, x6, x7] from rfl, HI.out]; have HB1 := h1_ hb1; clear hb1)
 refine ac_ fun W hW => ?_
 have HW := h1_ hW
 clear hW
 have q0 := q_0 x0 x1 x2 x3 x4 x5 x6 x7
 have q1 := q_1 x0 x1 x2 x3 x4 x5 x6 x7
 have q2 := q_2 x0 x1 x2 x3 x4 x5 x6 x7
 have q3 := q_3 x0 x1 x2 x3 x4 x5 x6 x7
 go_region
 go_wp2_with fail
 clear q0 q1 q2 q3
 have hWB : Below w.heap.size w W := by rw [← HW.out]; exact aw_ ((Below.refl _ _).alloc (Nat.le_refl _) _) HB1.out
 have hW0 : W.heap[w.heap.size]? = some (.cells #[.int .i64 0, .int .i64 0, .int .i64 0, .int .i64 0, .int .i64 0] 105 (0, 0)) := by rw [← HW.out]; exact b9_ HB1.out
 go_at_call 54
 have vB : Below W.heap.size W ((W.alloc (.cells #[.int .i64 x0.toNat, .int .i64 x1.toNat, .int .i64 x2.toNat, .int .i64 x3.toNat, .int .i64 imm] 105)).drew) := ((Below.refl _ _).alloc (Nat.le_refl _) _).drew
 have v8 : ((W.alloc (.cells #[.int .i64 x0.toNat, .int .i64 x1.toNat, .int .i64 x2.toNat, .int .i64 x3.toNat, .int .i64 imm] 105)).drew).heap[W.heap.size]? = some (.cells #[.int .i64 x0.toNat, .int .i64 x1.toNat, .int .i64 x2.toNat, .int .i64 x3.toNat, .int .i64 imm] 105 (0, 0)) := az_ (heap_alloc_new _ _)
 have vF := (HF.out.below hWB).below vB
 refine (m5_ (x0.toNat : Int) (x1.toNat : Int) (x2.toNat : Int) (x3.toNat : Int) imm true _ vF ⟨fun _ => HH.out, fun _ => rfl⟩).mono ?_
 rintro e w2 ⟨rfl, hb2⟩
 have k0 := (hb2.block _ (by simp; exact Nat.lt_of_lt_of_le (lt_of_block hW0) (by omega))).trans (at_b vB hW0)
 have k8 := at_b hb2 v8
 have kB := hWB.trans ((vB.trans (hb2.mono vB.size)).mono hWB.size)
 have h08 : w.heap.size ≠ W.heap.size := by have := lt_of_block hW0; omega
 (have c0 := ab_ k8 0 rfl; have f0 := ag_ k8 0; have c1 := ab_ k8 1 rfl; have f1 := ag_ k8 1; have c2 := ab_ k8 2 rfl; have f2 := ag_ k8 2; have c3 := ab_ k8 3 rfl; have f3 := ag_ k8 3; have c4 := ab_ k8 4 rfl; have f4 := ag_ k8 4)
 have HK := h3_ kB k0 k8
 clear hWB hW0 vB v8 vF hb2 kB
 have g0 := ab_ k0 0 rfl
 have p0 := ag_ k0 0
 go_wp2_with ((with_reducible refine ad_ ?_); refine sr_ rfl rfl (h := ?_); (try simp only [World.setRow_alloc_new]))
 obtain ⟨kB, k0, k8⟩ := HK.out
 have hcell : (w2.setRow w.heap.size #[.int .i64 x0.toNat, .int .i64 x1.toNat, .int .i64 x2.toNat, .int .i64 x3.toNat, .int .i64 imm]).heap[w.heap.size]? = some (.cells #[.int .i64 x0.toNat, .int .i64 x1.toNat, .int .i64 x2.toNat, .int .i64 x3.toNat, .int .i64 imm] 105 (0, 0)) := setRow_heap _ _ _ _ _ _ k0
 refine bodyPost_ret (a3_ (t2 := 5) rfl _ _ w.heap.size _ _ _ _ rfl hcell Tryz.underlying105 rfl (by kernel_rfl)) rfl ?_
 exact ⟨((Only.of_below_le kB (fun k _ h => h) : Only (fun b => w.heap.size ≤ b) w w2).setRow _ _ (.inl (Nat.le_refl _))).below (Nat.le_refl _) (fun k h => h), rfl⟩
theorem m6_ (op a b c imm : Int) (w : World) (hf : Forms w) (h : InsG (opF op.toNat) op a b c imm) :
 Calls Tryz.prog 30 #[insV op a b c imm] w fun e w' => Below w.heap.size w w' ∧ e = .returned (.tuple #[.string ⟨(encL op a b c imm).toArray⟩, .bool true]) := by
 have o0 := h.lo
 have o1 := h.hi
 have a0 := h.fa.2.1
 have a1 := h.fa.2.2
 have b0 := h.fb.2.1
 have b1 := h.fb.2.2
 have c0 := h.fc.2.1
 have c1 := h.fc.2.2
 have HH := h1_ h
 have HF := h1_ hf
 clear h hf
 unfold insV
 go_enter Tryz.func30, Tryz.ntmps30
 go_wp2_with (go_at_call 54; refine (m5_ op a b c imm true _ (HF.out.below ((Below.refl _ _).alloc (Nat.le_refl _) _)) ⟨fun _ => HH.out, fun _ => rfl⟩).mono ?_; rintro e w1 ⟨rfl, hb1⟩; have k1 := b9_ hb1; have e0 := ab_ k1 0 rfl; have e1 := ab_ k1 1 rfl; have e2 := ab_ k1 2 rfl; have e3 := ab_ k1 3 rfl; have e4 := ab_ k1 4 rfl; have H1 := h2_ k1 (aw_ ((Below.refl _ _).alloc (Nat.le_refl _) _) hb1); clear k1 hb1)
 rw [show (8 : Nat) = ([UInt8.ofNat op.toNat, UInt8.ofNat a.toNat, UInt8.ofNat b.toNat, UInt8.ofNat c.toNat, 0, 0, 0, 0] : List UInt8).length from rfl, run_convert_bytes_back _ 75 9 5 ⟨w1.heap.size, 0, none⟩ _ [UInt8.ofNat op.toNat, UInt8.ofNat a.toNat, UInt8.ofNat b.toNat, UInt8.ofNat c.toNat, 0, 0, 0, 0] Tryz.underlying75 Tryz.underlying5 Tryz.underlying9 ?hc]
 case hc =>
  intro j hj
  have hb : [Value.int .u8 op, .int .u8 a, .int .u8 b, .int .u8 c, .int .u8 0, .int .u8 0, .int .u8 0, .int .u8 0] = byteCells [UInt8.ofNat op.toNat, UInt8.ofNat a.toNat, UInt8.ofNat b.toNat, UInt8.ofNat c.toNat, 0, 0, 0, 0] := by
   simp only [byteCells, List.map_cons, List.map_nil]
   rw [ft_ op (by omega) (by omega), ft_ a (by omega) (by omega), ft_ b (by omega) (by omega), ft_ c (by omega) (by omega)]
   rfl
  rw [hx_]
  refine kx_ (t := 5) (fr := (0, 0)) ?_ j hj
  rw [← hb]
  exact heap_alloc_new _ _
 have hs1 := (H1.out.2).size
 have him1 := HH.out.im.fit.1
 have him2 := HH.out.im.fit.2
 have e4' : ∀ o, (w1.alloc o).cell? ⟨w.heap.size, 4, none⟩ = some (.int .i64 imm) := fun o => by rw [World.cell?_alloc_past _ _ _ (lt_of_block H1.out.1)]; exact e4
 have E4 := h1_ e4'
 have e5 := E4.out (.cells #[.int .u8 op, .int .u8 a, .int .u8 b, .int .u8 c, .int .u8 0, .int .u8 0, .int .u8 0, .int .u8 0] 5)
 clear e4' e0 e1 e2 e3 e4
 go_wp2_with (go_at_call 55; refine (put4 [UInt8.ofNat op.toNat, UInt8.ofNat a.toNat, UInt8.ofNat b.toNat, UInt8.ofNat c.toNat, 0, 0, 0, 0] imm _ (by simp) (by simp) him1 him2).mono ?_; rintro e w2 ⟨hb2, rfl⟩; have H2 := h1_ hb2; clear hb2)
 go_ret2
 exact ⟨H1.out.2.trans ((((Below.refl _ _).alloc (Nat.le_refl _) _).trans (H2.out.mono (by simp))).mono hs1), rfl⟩
end
end Go.Proofs.YtacaejpamidkcaaGreatDoor
