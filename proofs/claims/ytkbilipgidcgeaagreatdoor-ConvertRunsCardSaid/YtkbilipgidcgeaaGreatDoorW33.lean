/- machine: Step. -/
import Derived.Deep.RegionHeld3
import Derived.Deep.MidRow
import Derived.Deep.DrawnRows
import Derived.Test.YtkbilipgidcgeaaGreatDoorW32
import Derived.Test.YtkbilipgidcgeaaGreatDoorW25
set_option linter.unusedVariables false
set_option linter.unusedSimpArgs false
namespace Go.Proofs.YtkbilipgidcgeaaGreatDoor
open Go.RowKit
attribute [local go_sem] ext_cell ext_frozen

theorem cpu_size (r : Nat → Int) (pc : Int) : (Tryz.prog.info? 97).map (·.size) = some (cpuL r pc).toArray.size := by unfold cpuL; kernel_rfl
theorem cpu_size' (r : Nat → Int) (pc : Int) : (Tryz.prog.info? 97).map (·.size) = some (cpuL r pc).length := by unfold cpuL; kernel_rfl
theorem cpu_one (r : Nat → Int) (pc : Int) : (cpuL r pc).toArray.all (·.oneCell') = true := by unfold cpuL; simp [Value.oneCell']

theorem grow_load_mid {P : Program} {o : Oper} {a : Act} {w : World} {K : Value → World → Prop} (x : Tmp) (ty : TypeId) (ho : o.op = .load ty (.tmp x))
    (b off : Nat) (hx : a.tmps[x]?.getD undef = .pointer (some ⟨b, off, none⟩)) (cs : List Value) (d : TypeDesc) (hc : w.rangeAt b off cs)
    (hu : P.underlying ty = some d) (hd : d.isRow = true) (hi : (P.info? ty).map (·.size) = some cs.length) (h : K (.agg cs.toArray) w) : opGrow P o a w K :=
  grow_value (by simp [execOp, ho, Act.eval, hx, Instr.loadAt, Instr.sureAddr, run_loadVar_mid w b off ty cs d hc hu hd hi]) (Below.refl _ _) h

theorem runL_next (s : Nat) (op a b c imm : Int) (r : Nat → Int) (pc : Int) (r' : Nat → Int) (pc' k n : Int) (bad : Bool) : ∀ j v, (cpuL r' pc')[j]? = some v → (runL s op a b c imm r pc r' pc' k n bad)[23 + j]? = some v := by
  intro j v h
  have hl : j < 17 := (List.getElem?_eq_some_iff.1 h).1
  have e : (runL s op a b c imm r pc r' pc' k n bad)[23 + j]? = (cpuL r' pc' ++ [.int .i64 k, .int .i64 n, .bool bad])[j]? := by
    show ((.pointer (some ⟨s, 0, none⟩) :: .int .i64 op :: .int .i64 a :: .int .i64 b :: .int .i64 c :: .int .i64 imm :: (cpuL r pc ++ (cpuL r' pc' ++ [.int .i64 k, .int .i64 n, .bool bad])) : List Value))[23 + j]? = _
    rw [show 23 + j = (17 + j) + 6 by omega]
    show (cpuL r pc ++ (cpuL r' pc' ++ [.int .i64 k, .int .i64 n, .bool bad]))[17 + j]? = _
    rw [List.getElem?_append_right (show (cpuL r pc).length ≤ 17 + j by simp [cpuL]), show (cpuL r pc).length = 17 from rfl, Nat.add_sub_cancel_left]
  rw [e, List.getElem?_append_left (by simpa [cpuL] using hl)]
  exact h
theorem run_next_range {W : World} {g : Nat} {s : Nat} {op a b c imm : Int} {r : Nat → Int} {pc : Int} {r' : Nat → Int} {pc' k n : Int} {bad : Bool} {t : TypeId} {fr : Nat × Nat} (h : W.heap[g]? = some (.cells (runL s op a b c imm r pc r' pc' k n bad).toArray t fr)) : W.rangeAt g 23 (cpuL r' pc') :=
  fun j v hv => cell_l h (23 + j) (runL_next _ _ _ _ _ _ _ _ _ _ _ _ _ j v hv)
theorem run_ev_range {W : World} {g : Nat} {s : Nat} {op a b c imm : Int} {r : Nat → Int} {pc : Int} {r' : Nat → Int} {pc' k n : Int} {bad : Bool} {t : TypeId} {fr : Nat × Nat} (h : W.heap[g]? = some (.cells (runL s op a b c imm r pc r' pc' k n bad).toArray t fr)) : W.rangeAt g 40 [.int .i64 k, .int .i64 n] := by
  intro j v hv
  match j, hv with
  | 0, hv => cases hv; exact cell_l h 40 rfl
  | 1, hv => cases hv; exact cell_l h 41 rfl
  | j + 2, hv => simp at hv

/-- What executes an instruction does with the processor and the memory. -/
def OpDoes (s gp cap : Nat) (fnum : Nat) (op a b c imm : Int) (r : Nat → Int) (pc : Int) (r2 : Nat → Int) (pc2 k2 n2 : Int) (ps ps2 : List Part) (S : Nat → Prop) : Prop :=
  ∀ W g, W.heap[g]? = some (.cells (runL s op a b c imm r pc r (pc + 8) 0 0 false).toArray 301 (0, 0)) → SpaceAt W s (.slice (some ⟨gp, 0, none⟩) ps.length cap) ps →
    Calls Tryz.prog fnum #[.pointer (some ⟨g, 0, none⟩)] W fun e w' => e = .returned (.tuple #[]) ∧ Only (fun x => x = g ∨ S x) W w' ∧ w'.heap[g]? = some (.cells (runL s op a b c imm r pc r2 pc2 k2 n2 false).toArray 301 (0, 0)) ∧
      SpaceAt w' s (.slice (some ⟨gp, 0, none⟩) ps.length cap) ps2

set_option maxRecDepth 100000 in
/-- What the composite literal makes. -/
theorem run_fold (s : Nat) (op a b c imm : Int) (r : Nat → Int) (pc : Int) : List.foldl (fun (cs : Array Value) (x : Value × Nat) => cs.setIfInBounds (23 + x.snd) x.fst) (List.foldl (fun (cs : Array Value) (x : Value × Nat) => cs.setIfInBounds (6 + x.snd) x.fst) #[.pointer (some ⟨s, 0, none⟩), .int .i64 op, .int .i64 a, .int .i64 b, .int .i64 c, .int .i64 imm, .int .i64 0, .int .i64 0, .int .i64 0, .int .i64 0, .int .i64 0, .int .i64 0, .int .i64 0, .int .i64 0, .int .i64 0, .int .i64 0, .int .i64 0, .int .i64 0, .int .i64 0, .int .i64 0, .int .i64 0, .int .i64 0, .int .i64 0, .int .i64 0, .int .i64 0, .int .i64 0, .int .i64 0, .int .i64 0, .int .i64 0, .int .i64 0, .int .i64 0, .int .i64 0, .int .i64 0, .int .i64 0, .int .i64 0, .int .i64 0, .int .i64 0, .int .i64 0, .int .i64 0, .int .i64 0, .int .i64 0, .int .i64 0, .bool false] (cpuL r pc).zipIdx) (cpuL r pc).zipIdx = (runL s op a b c imm r pc r pc 0 0 false).toArray := by
  kernel_rfl
theorem wpList_run {P : Program} {ops : Array Oper} {rest : List Oper} {o : Oper} {a : Act} {w w' : World} {v : Value} {Q : Exit → Act → World → Prop} (hgd : o.guard = none)
    (he : (execOp a.eval o).run P w = .ok (.value v) w') (h : wpList P ops Q rest (a.put o.dst v) w') : wpList P ops Q (o :: rest) a w := by
  refine wpList_plain hgd fun _ hK => ?_
  unfold Oper.wp
  simp [he]
  exact hK _ _ h

set_option maxRecDepth 100000 in
theorem build301 (s : Nat) (op ra b c imm : Int) (r : Nat → Int) (pc : Int) (o : Oper) (a : Act) (w : World) (ho : o.op = .build 301 #[(0, .tmp 26), (1, .tmp 27), (2, .tmp 28), (3, .tmp 29)])
    (h26 : a.tmps[(26 : Nat)]?.getD undef = .pointer (some ⟨s, 0, none⟩)) (h27 : a.tmps[(27 : Nat)]?.getD undef = .agg #[.int .i64 op, .int .i64 ra, .int .i64 b, .int .i64 c, .int .i64 imm])
    (h28 : a.tmps[(28 : Nat)]?.getD undef = .agg (cpuL r pc).toArray) (h29 : a.tmps[(29 : Nat)]?.getD undef = .agg (cpuL r pc).toArray) :
    (execOp a.eval o).run Tryz.prog w = .ok (.value (.agg (runL s op ra b c imm r pc r pc 0 0 false).toArray)) w := by
  unfold runL
  unfold cpuL at *
  simp [execOp, ho, h26, h27, h28, h29, go_sem]
theorem cpu_len (r : Nat → Int) (pc : Int) : (cpuL r pc).length = 17 := rfl
theorem runL_pc (s : Nat) (op a b c imm : Int) (r : Nat → Int) (pc : Int) (r' : Nat → Int) (pc' k n : Int) (bad : Bool) (v : Int) : (runL s op a b c imm r pc r' pc' k n bad).set 39 (.int .i64 v) = runL s op a b c imm r pc r' v k n bad := rfl
theorem runL_39 (s : Nat) (op a b c imm : Int) (r : Nat → Int) (pc : Int) (r' : Nat → Int) (pc' k n : Int) (bad : Bool) : (runL s op a b c imm r pc r' pc' k n bad)[(39 : Nat)]? = some (.int .i64 pc') := rfl
theorem runL_42 (s : Nat) (op a b c imm : Int) (r : Nat → Int) (pc : Int) (r' : Nat → Int) (pc' k n : Int) (bad : Bool) : (runL s op a b c imm r pc r' pc' k n bad)[(42 : Nat)]? = some (.bool bad) := rfl

theorem there_blk {w : World} {b : Nat} {l : List Value} {t : TypeId} (h : w.heap[b]? = some (.cells l.toArray t (0, 0))) (n : Nat) (hn : n ≤ l.length) : w.there b 0 n := fun j hj => by
  rw [Nat.zero_add, cell_l h j (List.getElem?_eq_getElem (by omega))]
  exact ⟨rfl, free_in h j⟩

theorem wpAnyH_takeD {P : Program} {md : Region.Mode} {ops : Array Oper} {Q : Exit → Act → World → Prop} {S : World → Prop} {i : Nat} {oi : Oper} {v : Value} {fuel : Nat} {listed : Array Bool} {a : Act} {w : World} (d : Tmp) (hi : ops[i]? = some oi) (hd : oi.dst = some d)
    (hs : Region.noSelect ops = true) (hf : Region.free md ops listed i = true) (hr : (Region.ready md ops listed).contains i = true)
    (hQ : ∀ c a w, Q (.panic c) (a.put (some d) v) w → Q (.panic c) a w) (hy : YieldsIf P ops S oi v a) (hS : S w)
    (h : wpAnyH P md ops Q S fuel (listed.setIfInBounds i true) (a.put (some d) v) w) : wpAnyH P md ops Q S (fuel + 1) listed a w :=
  wpAnyH_take hi hs hf hr (by rw [hd]; exact hQ) hy hS (by rw [hd]; exact h)

attribute [local irreducible] cpuL runL opsArr
attribute [local go_sem ↓] Go.wp_at_zero Go.wp_at_succ

set_option maxRecDepth 100000 in
set_option maxHeartbeats 4000000 in
theorem step_any (s gp cap : Nat) (ps ps2 : List Part) (fnum : Nat) (op ra b c imm : Int) (r : Nat → Int) (pc : Int) (r2 : Nat → Int) (pc2 k2 n2 : Int) (S : Nat → Prop) (w : World) (hA : AreasOk ps) (hsp : SpaceAt w s (.slice (some ⟨gp, 0, none⟩) ps.length cap) ps) (hf : Forms w)
    (hfe : FetchAt ps pc op ra b c imm) (hpc : 0 < pc) (hidx : ∀ w : World, (Instr.index 303 (.agg opsArr) (.int .i64 op)).run Tryz.prog w = .ok (.func (.func fnum) #[] #[]) w)
    (hop : OpDoes s gp cap fnum op ra b c imm r pc r2 pc2 k2 n2 ps ps2 S) (hS : ∀ x, S x → x < w.heap.size) (hpc2 : pc ≤ 1099511627776) (hcall : ∀ (args : Array Value) (w : World), (callFunc fnum args).run Tryz.prog w = .ok (.enter fnum args) w) :
    Calls Tryz.prog 78 #[.pointer (some ⟨s, 0, none⟩), .agg (cpuL r pc).toArray] w fun e w' => e = .returned (.tuple #[.agg (cpuL r2 pc2).toArray, .agg #[.int .i64 k2, .int .i64 n2]]) ∧ Only S w w' ∧ SpaceAt w' s (.slice (some ⟨gp, 0, none⟩) ps.length cap) ps2 := by
  have hz : (pc == 0) = false := by simp; omega
  have HH := Lib.hid (And.intro hA (And.intro hsp (And.intro hf (And.intro hfe (And.intro hop hS)))))
  have HI := Lib.hid hidx
  have c16 : (cpuL r pc)[(16 : Nat)]? = some (.int .i64 pc) := by unfold cpuL; rfl
  have HC := Lib.hid c16
  have HCL := Lib.hid hcall
  clear hA hsp hf hfe hop hS hidx c16 hcall
  go_enter Tryz.func78, Tryz.ntmps78
  go_upto_region 1 with fail
  refine name_world fun V hV => ?_
  have vB : Below w.heap.size w V := by rw [← hV]; go_grown
  have vA : V.heap[w.heap.size]? = some (.cells (cpuL r pc).toArray 97 (0, 0)) := by rw [← hV]; exact block_old (block_old (heap_alloc_new _ _))
  have v4 : V.heap[w.heap.size + 1]? = some (.cells #[.int .i64 0, .int .i64 0, .int .i64 0, .int .i64 0, .int .i64 0, .int .i64 0, .int .i64 0, .int .i64 0, .int .i64 0, .int .i64 0, .int .i64 0, .int .i64 0, .int .i64 0, .int .i64 0, .int .i64 0, .int .i64 0, .int .i64 0] 97 (0, 0)) := by
    rw [← hV]; exact block_old (block_at (by simp))
  have v5 : V.heap[w.heap.size + 1 + 1]? = some (.cells #[.int .i64 0, .int .i64 0] 164 (0, 0)) := by rw [← hV]; exact block_at (by simp)
  have d16 := cell_l vA 16 HC.out
  have HV := Lib.hid (And.intro vB (And.intro vA (And.intro v4 v5)))
  clear hV vB vA v4 v5
  go_wp2_with fail
  go_at_call 173
  refine (fetch_ok s gp cap ps pc op ra b c imm _ HH.out.1 (HH.out.2.1.below HV.out.1) (HH.out.2.2.1.below HV.out.1) HH.out.2.2.2.1).mono ?_
  rintro e w1 ⟨hb1, rfl⟩
  unfold insV
  obtain ⟨vB, vA, v4, v5⟩ := HV.out
  have kB := vB.trans (hb1.mono vB.size)
  have kA := (hb1.block _ (lt_of_block vA)).trans vA
  have k4 := (hb1.block _ (lt_of_block v4)).trans v4
  have k5 := (hb1.block _ (lt_of_block v5)).trans v5
  have lA := lt_of_block kA
  have HK := Lib.hid (And.intro kB (And.intro kA (And.intro k4 k5)))
  clear vB vA v4 v5 kB kA k4 k5 hb1 HV d16
  go_upto_region 6 with ((with_reducible refine at_store_law ?_); refine wpList_store_row rfl _ _ _ rfl _ _ rfl rfl _ _ (by (repeat (first | assumption | exact heap_alloc_new _ _ | refine block_old ?_ | refine block_drew ?_ | apply setRow_heap | (refine (setRow_other _ _ _ _ ?_).trans ?_; omega)))) (by kernel_rfl) (by rfl) (by simp [Value.oneCell']) ?_; (try simp only [World.setRow_alloc_new]))
  refine name_world fun X hX => ?_
  have xB1 : Below w1.heap.size w1 X := by rw [← hX]; go_grown
  have x6 : X.heap[w1.heap.size]? = some (.cells #[.int .i64 op, .int .i64 ra, .int .i64 b, .int .i64 c, .int .i64 imm] 67 (0, 0)) := by rw [← hX]; exact heap_alloc_new _ _
  obtain ⟨kB, kA, k4, k5⟩ := HK.out
  have xB := kB.trans (xB1.mono kB.size)
  have xA := (xB1.block _ (lt_of_block kA)).trans kA
  have x4 := (xB1.block _ (lt_of_block k4)).trans k4
  have x5 := (xB1.block _ (lt_of_block k5)).trans k5
  have i0 := cell_in x6 0 rfl
  have i1 := cell_in x6 1 rfl
  have i2 := cell_in x6 2 rfl
  have i3 := cell_in x6 3 rfl
  have i4 := cell_in x6 4 rfl
  have HX := Lib.hid (And.intro xB (And.intro xA (And.intro x4 (And.intro x5 x6))))
  clear kB kA k4 k5 xB1 xB x4 x5 x6 hX HK
  go_upto_region 7 with (first
    | (refine wpList_load_row rfl 97 (.tmp 3) rfl w.heap.size rfl 97 (cpuL r pc).toArray (0, 0) _ xA Tryz.underlying97 rfl (cpu_size r pc) ?_)
    | (refine wpList_run rfl (build301 s op ra b c imm r pc _ _ _ rfl rfl rfl rfl rfl) ?_))
  obtain ⟨xB, xA', x4, x5, x6⟩ := HX.out
  have yB1 : Below X.heap.size X (X.alloc (.cells (runL s op ra b c imm r pc r pc 0 0 false).toArray 301)) := (Below.refl _ _).alloc (Nat.le_refl _) _
  refine name_world fun Y hY => ?_
  have yR : Y.heap[X.heap.size]? = some (.cells (runL s op ra b c imm r pc r pc 0 0 false).toArray 301 (0, 0)) := by rw [← hY]; exact heap_alloc_new _ _
  rw [hY] at yB1
  have yB := xB.trans (yB1.mono xB.size)
  have yA := (yB1.block _ (lt_of_block xA')).trans xA'
  have y4 := (yB1.block _ (lt_of_block x4)).trans x4
  have y5 := (yB1.block _ (lt_of_block x5)).trans x5
  have y6 := (yB1.block _ (lt_of_block x6)).trans x6
  have c39 := cell_l yR 39 (runL_39 _ _ _ _ _ _ _ _ _ _ _ _ _)
  have f39 := free_in yR 39
  have lY1 := lt_of_block yR
  have n6 : w1.heap.size ≠ X.heap.size := by have := lt_of_block x6; omega
  have n5 : w.heap.size + 1 + 1 ≠ X.heap.size := by have := lt_of_block x5; omega
  have n4 : w.heap.size + 1 ≠ X.heap.size := by have := lt_of_block x4; omega
  have nA : w.heap.size ≠ X.heap.size := by have := lt_of_block xA'; omega
  have lwX := xB.size
  have HY := Lib.hid (And.intro yB (And.intro yA (And.intro y4 (And.intro y5 (And.intro y6 yR)))))
  have hsum : IntKind.i64.wrap (pc + 8) = pc + 8 := IntWalk.i64_in _ (by omega)
  clear xB xA xA' x4 x5 x6 yB1 yB yA y4 y5 y6 yR hY HX i0 i1 i2 i3 i4
  go_upto_region 8 with fail
  clear hsum
  obtain ⟨yB, yA, y4, y5, y6, yR⟩ := HY.out
  refine name_world fun Z hZ => ?_
  have zo : Only (· = X.heap.size) Y Z := by rw [← hZ]; exact (Only.refl (· = X.heap.size) Y).setCell ⟨X.heap.size, 39, none⟩ _ (.inl rfl)
  have zR : Z.heap[X.heap.size]? = some (.cells (runL s op ra b c imm r pc r (pc + 8) 0 0 false).toArray 301 (0, 0)) := by
    have h := block_set yR 39 (.int .i64 (pc + 8))
    rw [runL_pc] at h
    rw [← hZ]; exact h
  have z4 := zo.kept y4 n4
  have z5 := zo.kept y5 n5
  have z6 := zo.kept y6 n6
  have zA := zo.kept yA nA
  have zB : Below w.heap.size w Z := ((Only.of_below_le yB (fun k _ h => h) : Only (fun k => w.heap.size ≤ k) w Y).then zo (by intro k _ h; omega)).below (Nat.le_refl _) (fun k h => h)
  have HZ := Lib.hid (And.intro zB (And.intro zA (And.intro z4 (And.intro z5 (And.intro z6 zR)))))
  clear yB yA y4 y5 y6 yR zo zR z4 z5 z6 zA zB hZ HY c39 f39
  obtain ⟨zB, zA, z4, z5, z6, zR⟩ := HZ.out
  refine wp_region_facts [.val (.agg opsArr), .val (.pointer (some ⟨w1.heap.size, 0, none⟩)), .val (.int .i64 op), .val (.func (.func fnum) #[] #[]), .val (.pointer (some ⟨X.heap.size, 0, none⟩))] (by kernel_rfl) (by kernel_rfl) ?_ ?_
  · simp only [stepsAll, List.take, List.length]
    refine ⟨?_, ?_, ?_, ?_, ?_, ?_⟩
    all_goals first | trivial | (intro a wx hb hf hd)
    all_goals have hf6 : a.tmps[(6 : Nat)]?.getD undef = .pointer (some ⟨w1.heap.size, 0, none⟩) := (hf 6 (by decide +kernel)).trans rfl
    all_goals have hf8 : a.tmps[(8 : Nat)]?.getD undef = .pointer (some ⟨X.heap.size, 0, none⟩) := (hf 8 (by decide +kernel)).trans rfl
    · refine grow_call (f := 174) (args := #[]) (by simp [execOp, go_sem]) ?_
      refine (mops_any _).mono ?_
      rintro e w3 ⟨hb3, rfl⟩
      exact ⟨_, rfl, hb3, rfl, fun h => by cases h⟩
    · exact grow_value (v := .pointer (some ⟨w1.heap.size, 0, none⟩)) (by simp [execOp, hf6, go_sem]) (Below.refl _ _) ⟨rfl, fun h => by cases h⟩
    · have h42 : a.tmps[(42 : Nat)]?.getD undef = .pointer (some ⟨w1.heap.size, 0, none⟩) := hd 1 (by simp) (by kernel_rfl)
      have hc := cell_l ((hb.block _ (lt_of_block z6)).trans z6) 0 (rfl)
      exact grow_value (v := .int .i64 op) (by simp [execOp, h42, hc, go_sem]) (Below.refl _ _) ⟨rfl, fun h => by cases h⟩
    · have h41 : a.tmps[(41 : Nat)]?.getD undef = .agg opsArr := hd 0 (by simp) (by kernel_rfl)
      have h43 : a.tmps[(43 : Nat)]?.getD undef = .int .i64 op := hd 2 (by simp) (by kernel_rfl)
      exact grow_value (v := .func (.func fnum) #[] #[]) (by simp [execOp, Act.eval, h41, h43, HI.out]) (Below.refl _ _) ⟨rfl, fun h => by cases h⟩
    · exact grow_tmp _ rfl ⟨hf8, fun h => by cases h⟩
  · intro fv w2 hb2 hs hn hne
    have g41 : fv 41 = .agg opsArr := hs 0 (by simp)
    have g42 : fv 42 = .pointer (some ⟨w1.heap.size, 0, none⟩) := hs 1 (by simp)
    have g43 : fv 43 = .int .i64 op := hs 2 (by simp)
    have g44 : fv 44 = .func (.func fnum) #[] #[] := hs 3 (by simp)
    have g45 : fv 45 = .pointer (some ⟨X.heap.size, 0, none⟩) := hs 4 (by simp)
    rw [show (List.range (List.length _)).map (dstOf _) = [41, 42, 43, 44, 45] from by kernel_rfl]
    simp only [actOf, List.foldl, Act.put, List.drop, List.length, g41, g42, g43, g44, g45, List.setIfInBounds_toArray, List.set_cons_zero, List.set_cons_succ]
    clear hs hn hne g41 g42 g43 g44 g45
    have yR := (hb2.block _ (lt_of_block zR)).trans zR
    have y4 := (hb2.block _ (lt_of_block z4)).trans z4
    have y5 := (hb2.block _ (lt_of_block z5)).trans z5
    have yB := zB.trans (hb2.mono zB.size)
    have ysp := HH.out.2.1.below yB
    have HY := Lib.hid (And.intro yB (And.intro y4 (And.intro y5 (And.intro yR ysp))))
    clear zB zA z4 z5 z6 zR HZ yR y4 y5 yB ysp hb2
    have hcall := HCL.out
    go_wp2_with fail
    clear hcall
    refine (HH.out.2.2.2.2.1 _ _ HY.out.2.2.2.1 HY.out.2.2.2.2).mono ?_
    rintro e w3 ⟨rfl, ho3, hR3, hsp3⟩
    have k4 := ho3.kept HY.out.2.1 (by rintro (h | h); exact n4 h; exact absurd (HH.out.2.2.2.2.2 _ h) (by omega))
    have k5 := ho3.kept HY.out.2.2.1 (by rintro (h | h); exact n5 h; exact absurd (HH.out.2.2.2.2.2 _ h) (by omega))
    have c42 := cell_l hR3 42 (runL_42 _ _ _ _ _ _ _ _ _ _ _ _ _)
    have o3 : Only (fun x => w.heap.size ≤ x ∨ S x) w w3 := ((Only.of_below_le HY.out.1 (fun k _ h => .inl h)) : Only (fun x => w.heap.size ≤ x ∨ S x) w w2).then ho3 (by rintro k hk (h | h); exact .inl (by omega); exact .inr h)
    have hs3 := o3.size
    have l4 := lt_of_block k4
    have l5 := lt_of_block k5
    have H3 := Lib.hid (And.intro o3 (And.intro k4 (And.intro k5 (And.intro hR3 hsp3))))
    clear ho3 hR3 hsp3 k4 k5 o3 HY
    go_upto_region 11 with fail
    clear c42
    obtain ⟨o3, k4, k5, hR3, hsp3⟩ := H3.out
    have zs4 : (w3.heap.size) = (w3.drew).heap.size := rfl
    have d4 : (w3.drew).heap[w.heap.size + 1]? = some (.cells (List.replicate 17 (.int .i64 0)).toArray 97 (0, 0)) := k4
    have d5 : (w3.drew).heap[w.heap.size + 1 + 1]? = some (.cells (List.replicate 2 (.int .i64 0)).toArray 164 (0, 0)) := k5
    have hS0 : (fun w' : World => w'.heap[X.heap.size]? = some (.cells (runL s op ra b c imm r pc r2 pc2 k2 n2 false).toArray 301 (0, 0))) w3.drew := hR3
    have o4 : Only (fun x => w.heap.size ≤ x ∨ S x) w w3.drew := o3.drew
    have hl17 := cpu_len r2 pc2
    have hspd : SpaceAt w3.drew s (.slice (some ⟨gp, 0, none⟩) ps.length cap) ps2 := hsp3.below (Below.refl _ _).drew
    have HD := Lib.hid (And.intro d4 (And.intro d5 (And.intro o4 (And.intro hl17 hspd))))
    clear o3 k4 k5 hR3 hsp3 d4 d5 o4 hl17 H3 hspd
    refine wp_region_held (S := fun w' : World => w'.heap[X.heap.size]? = some (.cells (runL s op ra b c imm r pc r2 pc2 k2 n2 false).toArray 301 (0, 0))) (by kernel_rfl) ?_
    change wpAnyH _ _ _ _ _ 10 _ _ w3.drew
    generalize w3.drew = w4 at *
    refine wpAnyH_takeD (i := 0) 53 (v := .pointer (some ⟨X.heap.size, 0, none⟩)) rfl rfl (by kernel_rfl) (by kernel_rfl) (by kernel_rfl) (fun _ _ _ h => h) (.inl ⟨by rfl, fun w' _ => by simp [execOp, Act.eval, go_sem]⟩) hS0 ?_
    simp only [Act.put, List.setIfInBounds_toArray, List.set_cons_zero, List.set_cons_succ]
    refine wpAnyH_takeD (i := 1) 54 (v := .pointer (some ⟨X.heap.size, 0, none⟩)) rfl rfl (by kernel_rfl) (by kernel_rfl) (by kernel_rfl) (fun _ _ _ h => h) (.inl ⟨by rfl, fun w' _ => by simp [execOp, Act.eval, go_sem]⟩) hS0 ?_
    simp only [Act.put, List.setIfInBounds_toArray, List.set_cons_zero, List.set_cons_succ]
    refine wpAnyH_takeD (i := 2) 55 (v := .pointer (some ⟨X.heap.size, 23, none⟩)) rfl rfl (by kernel_rfl) (by kernel_rfl) (by kernel_rfl) (fun _ _ _ h => h) (.inl ⟨by rfl, fun w' _ => by simp [execOp, Act.eval, go_sem]⟩) hS0 ?_
    simp only [Act.put, List.setIfInBounds_toArray, List.set_cons_zero, List.set_cons_succ]
    refine wpAnyH_takeD (i := 3) 56 (v := .agg (cpuL r2 pc2).toArray) rfl rfl (by kernel_rfl) (by kernel_rfl) (by kernel_rfl) (fun _ _ _ h => h) (yieldsIf_load_mid (by rfl) 97 (.tmp 55) rfl X.heap.size 23 rfl (cpuL r2 pc2) _ (fun _ h => run_next_range h) Tryz.underlying97 rfl (cpu_size' r2 pc2)) hS0 ?_
    simp only [Act.put, List.setIfInBounds_toArray, List.set_cons_zero, List.set_cons_succ]
    refine wpAnyH_takeD (i := 4) 57 (v := .pointer (some ⟨X.heap.size, 0, none⟩)) rfl rfl (by kernel_rfl) (by kernel_rfl) (by kernel_rfl) (fun _ _ _ h => h) (.inl ⟨by rfl, fun w' _ => by simp [execOp, Act.eval, go_sem]⟩) hS0 ?_
    simp only [Act.put, List.setIfInBounds_toArray, List.set_cons_zero, List.set_cons_succ]
    refine wpAnyH_takeD (i := 5) 58 (v := .pointer (some ⟨X.heap.size, 0, none⟩)) rfl rfl (by kernel_rfl) (by kernel_rfl) (by kernel_rfl) (fun _ _ _ h => h) (.inl ⟨by rfl, fun w' _ => by simp [execOp, Act.eval, go_sem]⟩) hS0 ?_
    simp only [Act.put, List.setIfInBounds_toArray, List.set_cons_zero, List.set_cons_succ]
    refine wpAnyH_takeD (i := 6) 59 (v := .pointer (some ⟨X.heap.size, 40, none⟩)) rfl rfl (by kernel_rfl) (by kernel_rfl) (by kernel_rfl) (fun _ _ _ h => h) (.inl ⟨by rfl, fun w' _ => by simp [execOp, Act.eval, go_sem]⟩) hS0 ?_
    simp only [Act.put, List.setIfInBounds_toArray, List.set_cons_zero, List.set_cons_succ]
    refine wpAnyH_takeD (i := 7) 60 (v := .agg #[.int .i64 k2, .int .i64 n2]) rfl rfl (by kernel_rfl) (by kernel_rfl) (by kernel_rfl) (fun _ _ _ h => h) (yieldsIf_load_mid (by rfl) 164 (.tmp 59) rfl X.heap.size 40 rfl [.int .i64 k2, .int .i64 n2] _ (fun _ h => run_ev_range h) Tryz.underlying164 rfl (by kernel_rfl)) hS0 ?_
    simp only [Act.put, List.setIfInBounds_toArray, List.set_cons_zero, List.set_cons_succ]
    refine wpAnyH_ready (rs := [8]) (by kernel_rfl) (by simp) ?_
    refine AllReadyH.cons rfl (fun K hK => ?_) AllReadyH.nil
    rw [if_pos (by rfl)]
    refine wp_store_mid 97 (.tmp 4) (.tmp 56) rfl (w.heap.size + 1) 0 (cpuL r2 pc2).toArray rfl rfl ?_ (cpu_size r2 pc2) (cpu_one r2 pc2) ?_
    · exact there_blk HD.out.1 _ (by rw [List.size_toArray, HD.out.2.2.2.1]; simp)
    refine hK.out _ _ ?_ (fun hS1 => ?_)
    · exact (Only.setCells (S := (· = w.heap.size + 1)) (w := w4) _ (.inl rfl) _ _ _ (Only.refl _ _)).kept hS0 (Ne.symm n4)
    obtain ⟨d4, d5, o4, hl17, hsp3⟩ := HD.out
    have oW : Only (· = w.heap.size + 1) w4 (w4.setCells (w.heap.size + 1) 0 (cpuL r2 pc2)) := Only.setCells (S := (· = w.heap.size + 1)) (w := w4) _ (.inl rfl) _ _ _ (Only.refl _ _)
    have e5 := oW.kept d5 (by omega)
    have e4 := block_setCells _ _ _ (cpuL r2 pc2) _ 0 w4 (by rw [hl17]; simp) d4
    refine wpAnyH_ready (rs := [9]) (by kernel_rfl) (by simp) ?_
    refine AllReadyH.cons rfl (fun K hK => ?_) AllReadyH.nil
    rw [if_pos (by rfl)]
    refine wp_store_mid 164 (.tmp 5) (.tmp 60) rfl (w.heap.size + 1 + 1) 0 #[.int .i64 k2, .int .i64 n2] rfl rfl ?_ (by kernel_rfl) (by simp [Value.oneCell']) ?_
    · exact there_blk e5 _ (by simp)
    have oV : Only (· = w.heap.size + 1 + 1) (w4.setCells (w.heap.size + 1) 0 (cpuL r2 pc2)) ((w4.setCells (w.heap.size + 1) 0 (cpuL r2 pc2)).setCells (w.heap.size + 1 + 1) 0 [.int .i64 k2, .int .i64 n2]) := Only.setCells (S := (· = w.heap.size + 1 + 1)) (w := w4.setCells (w.heap.size + 1) 0 (cpuL r2 pc2)) _ (.inl rfl) _ _ _ (Only.refl _ _)
    refine hK.out _ _ ?_ (fun hS1 => ?_)
    · exact oV.kept hS1 (Ne.symm n5)
    refine wpAnyH_done (by kernel_rfl) ?_ _
    have f4 := oV.kept e4 (by omega)
    have f5 := block_setCells _ _ _ [.int .i64 k2, .int .i64 n2] _ 0 _ (by simp) e5
    have wsp : SpaceAt w4 s (.slice (some ⟨gp, 0, none⟩) ps.length cap) ps2 := hsp3
    have vsp := (wsp.kept oW (by rintro k hk rfl; exact wsp.not_cells d4 (by decide) (by decide) (by decide) hk))
    have usp := vsp.kept oV (by rintro k hk rfl; exact vsp.not_cells e5 (by decide) (by decide) (by decide) hk)
    have oF : Only (fun x => w.heap.size ≤ x ∨ S x) w ((w4.setCells (w.heap.size + 1) 0 (cpuL r2 pc2)).setCells (w.heap.size + 1 + 1) 0 [.int .i64 k2, .int .i64 n2]) := (o4.then oW (by intro k _ h; exact .inl (by omega))).then oV (by intro k _ h; exact .inl (by omega))
    have hd17 : (List.replicate 17 (Value.int .i64 0)).drop (0 + (cpuL r2 pc2).length) = [] := by rw [hl17]; rfl
    rw [hd17, List.append_nil] at f4
    simp only [List.take_zero, List.nil_append] at f4
    generalize hG : (w4.setCells (w.heap.size + 1) 0 (cpuL r2 pc2)).setCells (w.heap.size + 1 + 1) 0 [.int .i64 k2, .int .i64 n2] = G at *
    change Exit.then _ _ _ _ G
    have HG := Lib.hid (And.intro f4 (And.intro f5 (And.intro usp oF)))
    clear f4 f5 usp oF hG oV oW vsp wsp e4 e5 d4 d5 o4 hl17 hsp3 hd17 hS1 hS0 HD
    go_wp2
    obtain ⟨f4, f5, usp, oF⟩ := HG.out
    refine bodyPost_ret (results_cell_cell rfl _ _ (w.heap.size + 1) _ _ _ _ rfl f4 Tryz.underlying97 rfl (cpu_size r2 pc2) (w.heap.size + 1 + 1) _ _ _ _ rfl f5 Tryz.underlying164 rfl (by kernel_rfl)) rfl ?_
    exact ⟨rfl, oF.mono (by rintro k hk (h | h); exact absurd h (by omega); exact h), usp⟩
end Go.Proofs.YtkbilipgidcgeaaGreatDoor
