/- convert: run. -/
import Derived.Test.YtkbilipgidcgeaaGreatDoorW33
import Derived.Test.YtkbilipgidcgeaaGreatDoorW34
import Derived.Test.YtkbilipgidcgeaaGreatDoorW07
import Derived.Test.YtkbilipgidcgeaaGreatDoorW26
set_option linter.unusedVariables false
set_option linter.unusedSimpArgs false
namespace Go.Proofs.YtkbilipgidcgeaaGreatDoor
open Go.RowKit
attribute [local go_sem] ext_cell ext_frozen

/-- The stack that a conversion maps. -/
def stackQ (a : Int) (blk : Nat) (d : List UInt8) : Part := { newPart a 1024 2 (-1) 0 blk with data := d }

/-- What the steps of the code do: N of them, the registers, the program counter, the memory and the stack ahead of each. -/
structure Steps (s : Nat) (a : Int) (N : Nat) (R : Nat → Nat → Int) (PC K E : Nat → Int) (Q : Nat → List Part) (T : Nat → List UInt8) : Prop where
  step : ∀ i, i < N → ∀ (gp cap blk : Nat) (W : World), AreasOk (Q i ++ [stackQ a blk (T i)]) → SpaceAt W s (.slice (some ⟨gp, 0, none⟩) (Q i ++ [stackQ a blk (T i)]).length cap) (Q i ++ [stackQ a blk (T i)]) → Forms W →
    Calls Tryz.prog 78 #[.pointer (some ⟨s, 0, none⟩), .agg (cpuL (R i) (PC i)).toArray] W fun e w' => e = .returned (.tuple #[.agg (cpuL (R (i + 1)) (PC (i + 1))).toArray, .agg #[.int .i64 (K i), .int .i64 (E i)]]) ∧
      Only (fun x => ∃ p ∈ Q i ++ [stackQ a blk (T i)], p.blk = x) W w' ∧ SpaceAt w' s (.slice (some ⟨gp, 0, none⟩) (Q i ++ [stackQ a blk (T i)]).length cap) (Q (i + 1) ++ [stackQ a blk (T (i + 1))])
  areas : ∀ i blk, AreasOk (Q i ++ [stackQ a blk (T i)])
  same : ∀ i, (Q i).map Part.blk = (Q 0).map Part.blk
  len : ∀ i, (Q i).length = (Q 0).length
  pos : 1 ≤ N
  few : N ≤ 1000

attribute [local irreducible] cpuL runL opsArr

set_option maxRecDepth 100000 in
set_option maxHeartbeats 4000000 in
theorem cinner (p s bb l g cap : Nat) (thv : Value) (ps : List Part) (a oa to_ pc0 : Int) (N : Nat) (R : Nat → Nat → Int) (PC K E : Nat → Int) (Q : Nat → List Part) (T : Nat → List UInt8) (rb : Bool) (w : World)
    (hp : w.heap[p]? = some (.cells (procC s bb l thv).toArray 81 (0, 0))) (hA : AreasOk ps) (hsp : SpaceAt w s (.slice (some ⟨g, 0, none⟩) ps.length cap) ps) (hf : Forms w) (hS : Steps s a N R PC K E Q T)
    (hQ0 : Q 0 = ps) (hT0 : T 0 = List.replicate 1024 0) (hz : ¬ ps.length = 0) (hfree : freeI ps 1024 = a) (ha : 256 ≤ a ∧ a < 1000000 ∧ upI a 256 = a) (hend : ∀ p ∈ ps, p.at_ + p.size ≤ a) (hfew : ps.length < 4096) (hf0 : ¬ spaceFoot s (.slice (some ⟨g, 0, none⟩) ps.length cap) ps 0)
    (hR0 : (cpuL (R 0) (PC 0)).toArray = #[.int .i64 oa, .int .i64 to_, .int .i64 0, .int .i64 0, .int .i64 0, .int .i64 0, .int .i64 0, .int .i64 0, .int .i64 0, .int .i64 0, .int .i64 0, .int .i64 0, .int .i64 0, .int .i64 0, .int .i64 0, (.int .i64 (a + 1024 - 8)), .int .i64 pc0])
    (hK : ∀ i, i + 1 < N → K i = 0 ∨ K i = 1) (hlast : (K (N - 1) = 4 ∧ rb = true) ∨ (K (N - 1) = 2 ∧ rb = false) ∨ (N = 1000 ∧ (K (N - 1) = 0 ∨ K (N - 1) = 1) ∧ rb = false)) :
    Calls Tryz.prog 36 #[.pointer (some ⟨p, 0, none⟩), .int .i64 pc0, .int .i64 oa, .int .i64 to_] w fun e w' => e = .returned (.bool rb) ∧ Only (spaceFoot s (.slice (some ⟨g, 0, none⟩) ps.length cap) ps) w w' ∧
      ∃ g' cap', SpaceAt w' s (.slice (some ⟨g', 0, none⟩) ps.length cap') (Q N) ∧ (g' = g ∨ w.heap.size ≤ g') := by
  have HH := Lib.hid (And.intro hp (And.intro hA (And.intro hsp (And.intro hf (And.intro hS (And.intro hQ0 (And.intro hT0 (And.intro hfree (And.intro ha (And.intro hend (And.intro hR0 (And.intro hK hlast))))))))))))
  have HZ := Lib.hid (And.intro hz (And.intro hfew hf0))
  clear hA hsp hf hS hQ0 hT0 hfree ha hend hR0 hK hlast hz hfew hf0
  go_enter_defers Tryz.func36, Tryz.ntmps36
  go_wp2_with fail
  go_at_call 9
  refine (pspace p s bb l thv _ hp).mono ?_
  rintro e w1 ⟨rfl, rfl⟩
  clear hp
  go_wp2_with fail
  go_at_call 66
  refine (free_any s _ ps 1024 _ HH.out.2.1 HH.out.2.2.1 (by omega) (by omega)).mono ?_
  rintro e w1 ⟨rfl, hb1⟩
  rw [HH.out.2.2.2.2.2.2.2.1]
  obtain ⟨ha0, ha1, ha2⟩ := HH.out.2.2.2.2.2.2.2.2.1
  have HA2 := Lib.hid ha2
  clear ha2
  have H1 := Lib.hid hb1
  clear hb1
  go_wp2_with fail
  go_at_call 67
  refine (map_row s g cap ps a 1024 2 (-1) 0 _ HH.out.2.1 (HH.out.2.2.1.below H1.out) ha0 (by omega) HA2.out (by omega) (by omega) (by omega) (by omega) (by omega) HZ.out.1 HZ.out.2.1 HH.out.2.2.2.2.2.2.2.2.2.1).mono ?_
  rintro e w2 ⟨rfl, ho2, pv2, blk, hsp2, hblk, hpv2⟩
  obtain ⟨g2, cap2, rfl, _⟩ := hsp2.parts (by simp)
  have hps0 : ps ++ [newPart a 1024 2 (-1) 0 blk] = Q 0 ++ [stackQ a blk (T 0)] := by
    rw [HH.out.2.2.2.2.2.1]; unfold stackQ; rw [HH.out.2.2.2.2.2.2.1]; rfl
  rw [hps0] at hsp2
  have hln : ∀ k, (Q k ++ [stackQ a blk (T k)]).length = ps.length + 1 := fun k => by
    rw [List.length_append, HH.out.2.2.2.2.1.len k, HH.out.2.2.2.2.2.1]; rfl
  have HL := Lib.hid hln
  rw [hln 0] at hsp2
  clear hln
  have ls1 : s < w1.heap.size := (HH.out.2.2.1.below H1.out).lt _ (.inl rfl)
  have ls : s < w.heap.size := HH.out.2.2.1.lt _ (.inl rfl)
  have oA : Only (fun x => spaceFoot s (.slice (some ⟨g, 0, none⟩) ps.length cap) ps x ∨ w.heap.size ≤ x) w w2 := (Only.of_below H1.out).then ho2 (by
    rintro b hb (h | h)
    · exact .inl (.inl h)
    · exact .inl (.inr (.inl h)))
  have l2 := oA.size
  have H2 := Lib.hid (And.intro hsp2 (And.intro oA (And.intro hblk hpv2)))
  have hl1 := H1.out.size
  clear ho2 hsp2 hblk hpv2 hps0 oA
  go_wp2_with fail
  refine name_world fun W hW => ?_
  obtain ⟨hsp2, oA, hblk, hpv2⟩ := H2.out
  have wB : Below w2.heap.size w2 W := by rw [← hW]; exact (Below.refl _ _).alloc (Nat.le_refl _) _
  have wc : W.heap[w2.heap.size]? = some (.cells (cpuL (R 0) (PC 0)).toArray 97 (0, 0)) := by
    rw [← hW, HH.out.2.2.2.2.2.2.2.2.2.2.1]; exact heap_alloc_new _ _
  have wo : Only (fun x => spaceFoot s (.slice (some ⟨g, 0, none⟩) ps.length cap) ps x ∨ w.heap.size ≤ x) w W := oA.call wB
  have wsp := hsp2.below wB
  have HW := Lib.hid (And.intro wc (And.intro wo wsp))
  have hN1 := HH.out.2.2.2.2.1.pos
  have hN2 := HH.out.2.2.2.2.1.few
  clear hsp2 oA wB wc wo wsp hW hblk hpv2
  go_loopw [40] (fun i wr => ∃ k : Nat, k ≤ N ∧ (k < N ∨ (N = 1000 ∧ rb = false)) ∧ i = .int .i64 k ∧ wr.heap[w2.heap.size]? = some (.cells (cpuL (R k) (PC k)).toArray 97 (0, 0)) ∧
      Only (fun x => spaceFoot s (.slice (some ⟨g, 0, none⟩) ps.length cap) ps x ∨ w.heap.size ≤ x) w wr ∧ SpaceAt wr s (.slice (some ⟨g2, 0, none⟩) (ps.length + 1) cap2) (Q k ++ [stackQ a blk (T k)])) (fun i _ => 1000 - (pI i).toNat)
  case atStart => exact ⟨0, Nat.zero_le _, .inl (by omega), rfl, HW.out.1, HW.out.2.1, HW.out.2.2⟩
  case round =>
    obtain ⟨k, hk, hkN, rfl, hc, ho, hsp⟩ := hrel
    have HR := Lib.hid (And.intro hc (And.intro ho hsp))
    have lc := lt_of_block hc
    clear ho hsp
    by_cases hlt : k < N
    · have hlt2 : k < 1000 := by omega
      go_wp2_with (first
        | (refine wpList_load_row rfl 97 (.tmp 11) rfl w2.heap.size rfl 97 (cpuL (R k) (PC k)).toArray (0, 0) _ hc Tryz.underlying97 rfl (cpu_size _ _) ?_))
      go_at_call 78
      have hSt := HH.out.2.2.2.2.1
      have fr : Forms wr := HH.out.2.2.2.1.only HR.out.2.1 (by rintro (h | h); exact HZ.out.2.2 h; have := HH.out.2.2.2.1.pos; omega)
      refine (hSt.step k hlt g2 cap2 blk _ (hSt.areas k blk) (by have := HR.out.2.2; rw [HL.out k]; exact this) fr).mono ?_
      rintro e w3 ⟨rfl, ho3, hsp3⟩
      rw [HL.out k] at hsp3
      have hbk : ∀ q ∈ Q k ++ [stackQ a blk (T k)], spaceFoot s (.slice (some ⟨g, 0, none⟩) ps.length cap) ps q.blk ∨ w.heap.size ≤ q.blk := by
        intro q hq
        rcases List.mem_append.1 hq with hq | hq
        · have h1 : q.blk ∈ (Q k).map Part.blk := List.mem_map_of_mem hq
          rw [hSt.same k, HH.out.2.2.2.2.2.1] at h1
          obtain ⟨q', hq', e⟩ := List.mem_map.1 h1
          exact .inl (.inr (.inr ⟨q', hq', e⟩))
        · rw [List.mem_singleton] at hq
          rw [hq]
          exact .inr (by have := H2.out.2.2.1; have := hl1; show w.heap.size ≤ blk; omega)
      have o3 : Only (fun x => spaceFoot s (.slice (some ⟨g, 0, none⟩) ps.length cap) ps x ∨ w.heap.size ≤ x) w w3 := HR.out.2.1.then ho3 (by
        rintro b hb ⟨q, hq, rfl⟩
        exact hbk q hq)
      have kc := ho3.kept HR.out.1 (by
        rintro ⟨q, hq, e⟩
        exact HR.out.2.2.not_cells HR.out.1 (by decide) (by decide) (by decide) (.inr (.inr ⟨q, hq, e⟩)))
      have l3 := lt_of_block kc
      have f11 : w2.heap.size ≠ w3.heap.size := by omega
      have f12 : w2.heap.size ≠ w3.heap.size + 1 := by omega
      have H3 := Lib.hid (And.intro o3 (And.intro kc hsp3))
      clear ho3 hsp3 hbk o3 hc kc fr hSt
      obtain ⟨kk, hkk⟩ : ∃ kk, K k = kk := ⟨_, rfl⟩
      rw [hkk]
      obtain ⟨ee, hee⟩ : ∃ ee, E k = ee := ⟨_, rfl⟩
      rw [hee]
      have hcase : kk = 0 ∨ kk = 1 ∨ kk = 4 ∨ kk = 2 := by
        rw [← hkk]
        obtain ⟨h1, h2⟩ := HH.out.2.2.2.2.2.2.2.2.2.2.2
        by_cases hk1 : k + 1 < N
        · rcases h1 k hk1 with h | h
          · exact .inl h
          · exact .inr (.inl h)
        · obtain rfl : k = N - 1 := by omega
          rcases h2 with h | h | h
          · exact .inr (.inr (.inl h.1))
          · exact .inr (.inr (.inr h.1))
          · rcases h.2.1 with h | h
            · exact .inl h
            · exact .inr (.inl h)
      have HKK := Lib.hid hkk
      clear hkk hee
      go_upto_region 11 with (first
        | ((with_reducible refine at_store_law ?_); refine wpList_store_row rfl 97 _ _ rfl _ _ rfl rfl _ _ (block_old (heap_alloc_new _ _)) (cpu_size _ _) (by unfold cpuL; rfl) (cpu_one _ _) ?_)
        | ((with_reducible refine at_store_law ?_); refine wpList_store_row rfl 164 _ _ rfl _ _ rfl rfl _ _ ((setRow_other _ _ _ _ (by omega)).trans (heap_alloc2_new w3 _ _)) (by kernel_rfl) (by rfl) (by simp [Value.oneCell']) ?_))
      refine name_world fun X hX => ?_
      obtain ⟨o3, kc, hsp3⟩ := H3.out
      have xo : Only (fun x => w3.heap.size ≤ x) w3 X := by
        rw [← hX]
        exact ((((Only.refl _ w3).alloc _).alloc _).setRow _ _ (.inl (Nat.le_refl _))).setRow _ _ (.inl (by omega))
      have x12 : X.heap[w3.heap.size]? = some (.cells (cpuL (R (k + 1)) (PC (k + 1))).toArray 97 (0, 0)) := by
        rw [← hX, setRow_other _ _ _ _ (by omega)]
        exact setRow_heap _ _ _ _ _ _ (block_old (heap_alloc_new _ _))
      have x13 : X.heap[w3.heap.size + 1]? = some (.cells #[.int .i64 kk, .int .i64 ee] 164 (0, 0)) := by
        rw [← hX]
        exact setRow_heap _ _ _ _ _ _ ((setRow_other _ _ _ _ (by omega)).trans (heap_alloc2_new w3 _ _))
      have xc := xo.kept kc (by omega)
      have xO : Only (fun x => spaceFoot s (.slice (some ⟨g, 0, none⟩) ps.length cap) ps x ∨ w.heap.size ≤ x) w X := o3.then xo (by intro b hb h; have := o3.size; exact .inr (by omega))
      have xsp := hsp3.kept xo (by intro b hb h; have := hsp3.lt b hb; omega)
      have lX := lt_of_block xc
      have HX := Lib.hid (And.intro xO (And.intro xc (And.intro xsp (And.intro x12 x13))))
      clear o3 kc hsp3 xo x12 xO xsp hX x13
      have x12 := HX.out.2.2.2.1
      go_upto_region 12 with (first
        | (refine wpList_load_row rfl 97 (.tmp 12) rfl w3.heap.size rfl 97 (cpuL (R (k + 1)) (PC (k + 1))).toArray (0, 0) _ x12 Tryz.underlying97 rfl (cpu_size _ _) ?_)
        | ((with_reducible refine at_store_law ?_); refine wpList_store_row rfl 97 _ _ rfl _ _ rfl rfl _ _ xc (cpu_size _ _) (by unfold cpuL; rfl) (cpu_one _ _) ?_))
      clear x12 xc
      refine name_world fun Y hY => ?_
      obtain ⟨xO, xc, xsp, x12, x13⟩ := HX.out
      have yo : Only (· = w2.heap.size) X Y := by rw [← hY]; exact (Only.refl (· = w2.heap.size) X).setRow _ _ (.inl rfl)
      have yc : Y.heap[w2.heap.size]? = some (.cells (cpuL (R (k + 1)) (PC (k + 1))).toArray 97 (0, 0)) := by rw [← hY]; exact setRow_heap _ _ _ _ _ _ xc
      have y13 := yo.kept x13 (Ne.symm f12)
      have yO : Only (fun x => spaceFoot s (.slice (some ⟨g, 0, none⟩) ps.length cap) ps x ∨ w.heap.size ≤ x) w Y := xO.then yo (by rintro b hb rfl; have := H2.out.2.1.size; exact .inr (by omega))
      have ysp := xsp.kept yo (by rintro b hb rfl; exact xsp.not_cells xc (by decide) (by decide) (by decide) hb)
      have k0 := cell_in y13 0 rfl
      have HY := Lib.hid (And.intro yO (And.intro yc ysp))
      clear xO xc xsp x12 x13 yo yc y13 yO ysp hY HX
      rcases hcase with rfl | rfl | rfl | rfl
      · skip
        go_wp2
        go_roundw
        case rel =>
          obtain ⟨yO, yc, ysp⟩ := HY.out
          refine ⟨k + 1, by omega, ?_, by go_num, yc, yO, ysp⟩
          by_cases hk1 : k + 1 < N
          · exact .inl hk1
          · obtain rfl : k = N - 1 := by omega
            rcases HH.out.2.2.2.2.2.2.2.2.2.2.2.2 with h | h | h
            · rw [HKK.out] at h; exact absurd h.1 (by decide)
            · rw [HKK.out] at h; exact absurd h.1 (by decide)
            · exact .inr ⟨h.1, h.2.2⟩
        case measure => simp [pI]; omega
      · skip
        go_wp2
        go_roundw
        case rel =>
          obtain ⟨yO, yc, ysp⟩ := HY.out
          refine ⟨k + 1, by omega, ?_, by go_num, yc, yO, ysp⟩
          by_cases hk1 : k + 1 < N
          · exact .inl hk1
          · obtain rfl : k = N - 1 := by omega
            rcases HH.out.2.2.2.2.2.2.2.2.2.2.2.2 with h | h | h
            · rw [HKK.out] at h; exact absurd h.1 (by decide)
            · rw [HKK.out] at h; exact absurd h.1 (by decide)
            · exact .inr ⟨h.1, h.2.2⟩
        case measure => simp [pI]; omega
      · skip
        have hkN1 : k + 1 = N := by
          by_cases hk1 : k + 1 < N
          · exfalso
            rcases HH.out.2.2.2.2.2.2.2.2.2.2.2.1 k hk1 with h | h <;> rw [HKK.out] at h <;> exact absurd h (by decide)
          · omega
        have hrb0 : rb = true := by
          have hkk : N - 1 = k := by omega
          have h := HH.out.2.2.2.2.2.2.2.2.2.2.2.2
          rw [hkk, HKK.out] at h
          rcases h with h | h | h
          · exact h.2
          · exact absurd h.1 (by decide)
          · rcases h.2.1 with h | h <;> exact absurd h (by decide)
        have HRB := Lib.hid (And.intro hkN1 hrb0)
        clear hkN1 hrb0
        go_wp2
        refine leaves_cons (f := 69) (args := #[.pointer (some ⟨s, 0, none⟩), .int .i64 a]) (by simp) (by simp [go_sem]) ?_
        have hSt := HH.out.2.2.2.2.1
        have usp := (by have := HY.out.2.2; rw [HRB.out.1] at this; exact this)
        have uO := HY.out.1
        refine (unmap_last_d .returning s g2 cap2 ps.length (Q N) (stackQ a blk (T N)) a _ (hSt.areas N blk) (by rw [hSt.len N, HH.out.2.2.2.2.2.1]) rfl usp).mono ?_
        rintro e u' w'' ⟨rfl, rfl, hoU, hspU⟩
        have hrb := HRB.out.2
        obtain ⟨_, _, hblk, hpv2⟩ := H2.out
        refine ⟨_, results_tmp rfl _ _ _, ?_⟩
        refine ⟨by rw [hrb]; rfl, ?_, g2, cap2, hspU, ?_⟩
        · refine (uO.then hoU ?_).mono ?_
          · rintro b hb (h | h)
            · exact .inl (.inl h)
            · subst h
              rcases hpv2 with h | ⟨g', h, h'⟩
              · exact .inl (.inr (.inl (by simpa [Value.ownBlock] using h.symm)))
              · refine .inr ?_
                have : g' = b := by simpa [Value.ownBlock] using h.symm
                omega
          · rintro b hb (h | h)
            · exact h
            · exact absurd h (by omega)
        · rcases hpv2 with h | ⟨g', h, h'⟩
          · exact .inl (by simpa [Value.ownBlock] using h)
          · refine .inr ?_
            have : g' = g2 := by simpa [Value.ownBlock] using h.symm
            omega
      · skip
        have hkN1 : k + 1 = N := by
          by_cases hk1 : k + 1 < N
          · exfalso
            rcases HH.out.2.2.2.2.2.2.2.2.2.2.2.1 k hk1 with h | h <;> rw [HKK.out] at h <;> exact absurd h (by decide)
          · omega
        have hrb0 : rb = false := by
          have hkk : N - 1 = k := by omega
          have h := HH.out.2.2.2.2.2.2.2.2.2.2.2.2
          rw [hkk, HKK.out] at h
          rcases h with h | h | h
          · exact absurd h.1 (by decide)
          · exact h.2
          · rcases h.2.1 with h | h <;> exact absurd h (by decide)
        have HRB := Lib.hid (And.intro hkN1 hrb0)
        clear hkN1 hrb0
        go_wp2
        refine leaves_cons (f := 69) (args := #[.pointer (some ⟨s, 0, none⟩), .int .i64 a]) (by simp) (by simp [go_sem]) ?_
        have hSt := HH.out.2.2.2.2.1
        have usp := (by have := HY.out.2.2; rw [HRB.out.1] at this; exact this)
        have uO := HY.out.1
        refine (unmap_last_d .returning s g2 cap2 ps.length (Q N) (stackQ a blk (T N)) a _ (hSt.areas N blk) (by rw [hSt.len N, HH.out.2.2.2.2.2.1]) rfl usp).mono ?_
        rintro e u' w'' ⟨rfl, rfl, hoU, hspU⟩
        have hrb := HRB.out.2
        obtain ⟨_, _, hblk, hpv2⟩ := H2.out
        refine ⟨_, results_tmp rfl _ _ _, ?_⟩
        refine ⟨by rw [hrb]; rfl, ?_, g2, cap2, hspU, ?_⟩
        · refine (uO.then hoU ?_).mono ?_
          · rintro b hb (h | h)
            · exact .inl (.inl h)
            · subst h
              rcases hpv2 with h | ⟨g', h, h'⟩
              · exact .inl (.inr (.inl (by simpa [Value.ownBlock] using h.symm)))
              · refine .inr ?_
                have : g' = b := by simpa [Value.ownBlock] using h.symm
                omega
          · rintro b hb (h | h)
            · exact h
            · exact absurd h (by omega)
        · rcases hpv2 with h | ⟨g', h, h'⟩
          · exact .inl (by simpa [Value.ownBlock] using h)
          · refine .inr ?_
            have : g' = g2 := by simpa [Value.ownBlock] using h.symm
            omega
    · obtain rfl : k = N := by omega
      have hkN2 : k = 1000 ∧ rb = false := by rcases hkN with h | h; omega; exact h
      obtain ⟨rfl, hrb0⟩ := hkN2
      have HRB := Lib.hid hrb0
      clear hrb0 hkN
      go_wp2
      refine leaves_cons (f := 69) (args := #[.pointer (some ⟨s, 0, none⟩), .int .i64 a]) (by simp) (by simp [go_sem]) ?_
      have hSt := HH.out.2.2.2.2.1
      have usp := HR.out.2.2
      have uO := HR.out.2.1
      refine (unmap_last_d .returning s g2 cap2 ps.length (Q 1000) (stackQ a blk (T 1000)) a _ (hSt.areas 1000 blk) (by rw [hSt.len 1000, HH.out.2.2.2.2.2.1]) rfl usp).mono ?_
      rintro e u' w'' ⟨rfl, rfl, hoU, hspU⟩
      have hrb := HRB.out
      obtain ⟨_, _, hblk, hpv2⟩ := H2.out
      refine ⟨_, results_tmp rfl _ _ _, ?_⟩
      refine ⟨by rw [hrb]; rfl, ?_, g2, ⟨cap2, hspU⟩, ?_⟩
      · refine (uO.then hoU ?_).mono ?_
        · rintro b hb (h | h)
          · exact .inl (.inl h)
          · subst h
            rcases hpv2 with h | ⟨g', h, h'⟩
            · exact .inl (.inr (.inl (by simpa [Value.ownBlock] using h.symm)))
            · refine .inr ?_
              have : g' = b := by simpa [Value.ownBlock] using h.symm
              omega
        · rintro b hb (h | h)
          · exact h
          · exact absurd h (by omega)
      · rcases hpv2 with h | ⟨g', h, h'⟩
        · exact .inl (by simpa [Value.ownBlock] using h)
        · refine .inr ?_
          have : g' = g2 := by simpa [Value.ownBlock] using h.symm
          omega
end Go.Proofs.YtkbilipgidcgeaaGreatDoor
