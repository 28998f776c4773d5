/- digest: permute. digest: absorb. -/
import Derived.Test.YtacaejpamidkcaaGreatDoorR31
set_option linter.unusedVariables false
set_option linter.unusedSimpArgs false
set_option maxRecDepth 100000
set_option maxHeartbeats 8000000
namespace Go.Proofs.YtacaejpamidkcaaGreatDoor
section
open Go.RowKit Dig
attribute [local go_sem] ak_ af_
structure Tabs (t : Nat → Nat) (c : Nat → Int) (w : World) : Prop where
 consts : ∀ i, i < 24 → w.cell? ⟨1, i, none⟩ = some (.int .u64 (c i))
 turns : ∀ i, i < 25 → w.cell? ⟨2, i, none⟩ = some (.int .i64 (t i))
 small : ∀ i, i < 25 → t i < 64
theorem Tabs.only {t : Nat → Nat} {c : Nat → Int} {w w' : World} {S : Nat → Prop} (h : Tabs t c w) (ho : Only S w w') (h1 : ¬ S 1) (h2 : ¬ S 2) : Tabs t c w' :=
 ⟨fun i hi => (ho.cell (World.block_lt_of_cell? w _ (h.consts i hi)) h1).trans (h.consts i hi), fun i hi => (ho.cell (World.block_lt_of_cell? w _ (h.turns i hi)) h2).trans (h.turns i hi), h.small⟩
theorem Tabs.two {t : Nat → Nat} {c : Nat → Int} {w : World} (h : Tabs t c w) : 2 < w.heap.size := World.block_lt_of_cell? w _ (h.turns 0 (by decide))
theorem Tabs.below {t : Nat → Nat} {c : Nat → Int} {w w' : World} (h : Tabs t c w) (hb : Below w.heap.size w w') : Tabs t c w' := h.only (Only.of_below hb : Only (fun _ => False) w w') id id
theorem rowF_lt {n : Nat} {f : Nat → Int} {j : Nat} {v : Value} (h : (rowF n f)[j]? = some v) : j < n := by
 have := (List.getElem?_eq_some_iff.1 h).1
 rw [ey_] at this
 exact this
theorem pF_zero (a : Nat → Int) : pF a 0 = fun _ => 0 := rfl
theorem pF_succ (a : Nat → Int) (k : Nat) : pF a (k + 1) = put (pF a k) (k % 5) (xr (pF a k (k % 5)) (a k)) := rfl
theorem bF_zero (t : Nat → Nat) (a p : Nat → Int) : bF t a p 0 = fun _ => 0 := rfl
theorem bF_succ (t : Nat → Nat) (a p : Nat → Int) (k : Nat) : bF t a p (k + 1) = put (bF t a p k) (k / 5 + 5 * ((2 * (k % 5) + 3 * (k / 5)) % 5)) (rot (lane a p k) (t k)) := rfl
theorem aF_zero (a b : Nat → Int) : aF a b 0 = a := rfl
theorem aF_succ (a b : Nat → Int) (k : Nat) : aF a b (k + 1) = put (aF a b k) k (xr (b k) (bits .and .u64 (bits .xor .u64 18446744073709551615 (b (k - k % 5 + (k % 5 + 1) % 5))) (b (k - k % 5 + (k % 5 + 2) % 5)))) := rfl
theorem r5_ (t : Nat → Nat) (c a : Nat → Int) : jw_ t c a 0 = a := rfl
theorem r6_ (t : Nat → Nat) (c a : Nat → Int) (k : Nat) : jw_ t c a (k + 1) = qk_ t (c k) (jw_ t c a k) := rfl
theorem r7_ (t : Nat → Nat) (c : Int) (a : Nat → Int) : qk_ t c a = put (aF a (bF t a (pF a 25) 25) 25) 0 (xr (aF a (bF t a (pF a 25) 25) 25 0) c) := rfl
theorem u64_ones : (if IntKind.u64.signed = true then (-1 : Int) else IntKind.u64.max) = 18446744073709551615 := by decide
theorem k3_ (x y : Int) : bits .xor .u64 x y = xr x y := rfl
theorem w1_ (a p : Nat → Int) (k : Nat) : xr (a k) (xr (p ((k % 5 + 4) % 5)) (rot (p ((k % 5 + 1) % 5)) 1)) = lane a p k := rfl
attribute [local irreducible] rowF lane qk_ pF bF aF jw_ xr rot
theorem sperm (t : Nat → Nat) (c a : Nat → Int) (s : Nat) (hs2 : 2 < s) (w : World) (hT : Tabs t c w) (h : w.heap[s]? = some (.cells (rowF 25 a).toArray 344 (0, 0))) :
 Calls Tryz.prog 300 #[.pointer (some ⟨s, 0, none⟩)] w fun e w' => e = .returned (.tuple #[]) ∧ Only (· = s) w w' ∧ w'.heap[s]? = some (.cells (rowF 25 (jw_ t c a 24)).toArray 344 (0, 0)) := by
 have hidx : ∀ (k : Nat) (hk : k < 24) (w : World), (Instr.index 528 (.agg (rowF 24 c).toArray) (.int .i64 k)).run Tryz.prog w = .ok (.int .u64 (c k)) w := by
  intro k hk w
  have h1 := ci_ 24 c k hk
  have h2 : (rowF 24 c).length = 24 := ey_ 24 c
  simp [Instr.index, run_underlying Tryz.underlying528, asIntOf, go_sem, h1, hk]
 have HW := h3_ hT h hidx
 have ls := lt_of_block h
 clear hT h hidx
 go_enter Tryz.func300, Tryz.ntmps300
 go_wp2_with (refine wpList_load_mid rfl 528 (.global 1) rfl 1 0 rfl (rowF 24 c) _ (fun j v hj => by rw [Nat.zero_add]; have hlt : j < 24 := rowF_lt hj; rw [ci_ 24 c j hlt] at hj; cases hj; exact HW.out.1.consts j hlt) Tryz.underlying528 rfl (by rw [ey_]; kernel_rfl) ?_)
 go_loopw [16] (fun i wr => ∃ kr : Nat, i = .int .i64 kr ∧ kr ≤ 24 ∧ Only (· = s) w wr ∧ wr.heap[s]? = some (.cells (rowF 25 (jw_ t c a kr)).toArray 344 (0, 0))) (fun i _ => 24 - (RowKit.intOf i).toNat)
 case atStart => exact ⟨0, rfl, by omega, Only.refl _ _, by rw [r5_]; exact HW.out.2.1⟩
 case round =>
  obtain ⟨kr, rfl, hk, ho, hs⟩ := hrel
  obtain ⟨A, hA⟩ : ∃ A, A = jw_ t c a kr := ⟨_, rfl⟩
  rw [← hA] at hs
  have HA := h1_ hA
  have HK := h2_ ho hs
  have lsw := lt_of_block hs
  have lw := ho.size
  clear hA ho hs
  by_cases hlt : kr < 24
  · have hi := HW.out.2.2 kr hlt
    go_upto_region 4 with fail
    clear hi
    refine ac_ fun V hV => ?_
    have vP : V.heap[wr.heap.size]? = some (.cells (rowF 5 (pF A 0)).toArray 529 (0, 0)) := by rw [← hV, pF_zero, jv_]; exact heap_alloc_new _ _
    have vB : Below wr.heap.size wr V := by rw [← hV]; go_grown
    have vs := (vB.block _ lsw).trans HK.out.2
    have vo := HK.out.1.call vB
    have HV := h3_ vs vP vo
    generalize hP : wr.heap.size = P at *
    have nP : P ≠ s := by omega
    have lPw : w.heap.size ≤ P := lw
    clear hP vP vB vs vo hV lw HK lsw
    go_wp2_with fail
    have hk24 : (kr : Int) < 24 := by omega
    simp only [hk24, decide_true]
    go_loopw [20] (fun i w2 => ∃ j : Nat, i = .int .i64 j ∧ j ≤ 25 ∧ Only (· = s) w w2 ∧ w2.heap[s]? = some (.cells (rowF 25 A).toArray 344 (0, 0)) ∧ w2.heap[P]? = some (.cells (rowF 5 (pF A j)).toArray 529 (0, 0))) (fun i _ => 25 - (RowKit.intOf i).toNat)
    case atStart => exact ⟨0, rfl, by omega, HV.out.2.2, HV.out.1, HV.out.2.1⟩
    case round =>
     clear HV
     obtain ⟨j, rfl, hj, hjo, hjs, hjP⟩ := hrel
     have HD := h3_ hjo hjs hjP
     have lP2 := lt_of_block hjP
     clear hjo hjs hjP
     by_cases hjl : j < 25
     · have j0 : (0 : Int) ≤ (j : Int) := by omega
       have j25 : (j : Int) < 25 := by omega
       replace hj := hjl
       go_upto_region 6 with fail
       refine wq_ 6 [] (fun _ => False) [.val (.int .i64 j), .pt s 0, .pt s j, .val (.int .u64 (A j)), .val (.int .i64 j), .val (.int .u64 (A j))] (fun _ _ => True) (by kernel_rfl) (by kernel_rfl) (trivial) ?_ ?_
       · simp only [a4_, List.take]
         refine ⟨?_, ?_, ?_, ?_, ?_, ?_, trivial⟩
         all_goals intro k a wr ho hJ hk hr hf hd
         · have h20 : z_ a 20 (.int .i64 j) := (hf 20).trans rfl
           exact dp_ hJ (by simp [execOp, h20, go_sem])
         · have h19 : zp_ a 19 s 0 := (hf 19).trans rfl
           exact dp_ hJ (by simp [execOp, h19, go_sem])
         · have h23 : z_ a 23 _ := hd 1
           have h20 : z_ a 20 (.int .i64 j) := (hf 20).trans rfl
           exact dp_ hJ (by simp [execOp, h23, h20, go_sem, j0, j25])
         · have h24 : z_ a 24 _ := hd 2
           have hc := ab_ (ho.kept HD.out.2.1 id) (j) (ci_ 25 A (j) hj)
           exact dp_ hJ (by simp [execOp, h24, hc, go_sem])
         · have h22 : z_ a 22 _ := hd 0
           exact dp_ hJ (by simp [execOp, h22, go_sem])
         · have h25 : z_ a 25 _ := hd 3
           exact dp_ hJ (by simp [execOp, h25, go_sem])
       · intro fv w2 ho2 hj hs
         rw [seqv hs [22, 23, 24, 25, 5, 6] (by kernel_rfl)]
         simp only [actV, Act.put, List.drop, List.length, List.setIfInBounds_toArray, List.set_cons_zero, List.set_cons_succ]
         clear hs
         have xo := ho2
         have hm : (j : Int) % 5 = ((j % 5 : Nat) : Int) := by omega
         obtain ⟨x, hx⟩ : ∃ x, x = j % 5 := ⟨_, rfl⟩
         rw [← hx] at hm
         have hx5 : x < 5 := by omega
         have x0 : (0 : Int) ≤ (x : Int) := by omega
         have x5 : (x : Int) < 5 := by omega
         have zP := ho2.kept HD.out.2.2 id
         have zs := ho2.kept HD.out.2.1 id
         have yc := ab_ zP x (ci_ 5 (pF A j) x hx5)
         have yf := ag_ zP x
         have HZ := h4_ zP zs ho2 hx
         clear zP zs xo ho2 hx hj
         go_wp2
         go_roundw
         case rel =>
          obtain ⟨zP, zs, ho2, hx⟩ := HZ.out
          have o1 : Only (· = P) w2 (w2.setCell ⟨P, x, none⟩ (.int .u64 (bits .xor .u64 (pF A j x) (A j)))) := (Only.refl _ _).setCell _ _ (.inl rfl)
          refine ⟨j + 1, rfl, by omega, ?_, o1.kept zs (Ne.symm nP), ?_⟩
          · exact (HD.out.1.then ho2 (fun _ _ h => h.elim)).then o1 (fun b hb h => by omega)
          · have hb := aj_ zP x (.int .u64 (bits .xor .u64 (pF A j x) (A j)))
            rw [hm_ 5 _ x hx5, hx] at hb
            rw [pF_succ]
            rw [← hx] at hb ⊢
            rw [← k3_]
            exact hb
         case measure => simp [RowKit.intOf]; omega
     · have e25 : j = 25 := by omega
       rw [e25] at HD
       clear e25
       go_upto_region 10 with fail
       refine ac_ fun V2 hV2 => ?_
       have v2B : V2.heap[wr.heap.size]? = some (.cells (rowF 25 (bF t A (pF A 25) 0)).toArray 344 (0, 0)) := by rw [← hV2, bF_zero, jv_]; exact heap_alloc_new _ _
       have v2b : Below wr.heap.size wr V2 := by rw [← hV2]; go_grown
       have v2s := at_b v2b HD.out.2.1
       have v2P := (v2b.block _ lP2).trans HD.out.2.2
       have v2o := HD.out.1.call v2b
       have HV2 := h4_ v2o v2s v2P v2B
       have lsB : s < wr.heap.size := lt_of_block HD.out.2.1
       generalize hB : wr.heap.size = B at *
       have nBs : B ≠ s := by omega
       have nBP : B ≠ P := by omega
       have nB1 : 2 < B := by omega
       have nP1 : 2 < P := by omega
       have lPB : w.heap.size ≤ B := by omega
       clear hB v2B v2b v2s v2P v2o hV2 HD lP2 hj lsB
       go_wp2_with fail
       go_loopw [35] (fun i w3 => ∃ j : Nat, i = .int .i64 j ∧ j ≤ 25 ∧ Only (· = s) w w3 ∧ w3.heap[s]? = some (.cells (rowF 25 A).toArray 344 (0, 0)) ∧ w3.heap[P]? = some (.cells (rowF 5 (pF A 25)).toArray 529 (0, 0)) ∧ w3.heap[B]? = some (.cells (rowF 25 (bF t A (pF A 25) j)).toArray 344 (0, 0))) (fun i _ => 25 - (RowKit.intOf i).toNat)
       case atStart => exact ⟨0, rfl, by omega, HV2.out.1, HV2.out.2.1, HV2.out.2.2.1, HV2.out.2.2.2⟩
       case round =>
        clear HV2
        obtain ⟨j, rfl, hj, hjo, hjs, hjP, hjB⟩ := hrel
        have HD := h4_ hjo hjs hjP hjB
        clear hjo hjs hjP hjB
        by_cases hjl : j < 25
        · have j0 : (0 : Int) ≤ (j : Int) := by omega
          have j25 : (j : Int) < 25 := by omega
          replace hj := hjl
          go_upto_region 12 with fail
          refine wq_ 6 [] (fun _ => False) [.val (.int .i64 j), .pt s 0, .pt s j, .val (.int .u64 (A j)), .val (.int .i64 j), .val (.int .u64 (A j))] (fun _ _ => True) (by kernel_rfl) (by kernel_rfl) (trivial) ?_ ?_
          · simp only [a4_, List.take]
            refine ⟨?_, ?_, ?_, ?_, ?_, ?_, trivial⟩
            all_goals intro k a wr ho hJ hk hr hf hd
            · have h35 : z_ a 35 (.int .i64 j) := (hf 35).trans rfl
              exact dp_ hJ (by simp [execOp, h35, go_sem])
            · have h34 : zp_ a 34 s 0 := (hf 34).trans rfl
              exact dp_ hJ (by simp [execOp, h34, go_sem])
            · have h38 : z_ a 38 _ := hd 1
              have h35 : z_ a 35 (.int .i64 j) := (hf 35).trans rfl
              exact dp_ hJ (by simp [execOp, h38, h35, go_sem, j0, j25])
            · have h39 : z_ a 39 _ := hd 2
              have hc := ab_ (ho.kept HD.out.2.1 id) (j) (ci_ 25 A (j) hj)
              exact dp_ hJ (by simp [execOp, h39, hc, go_sem])
            · have h37 : z_ a 37 _ := hd 0
              exact dp_ hJ (by simp [execOp, h37, go_sem])
            · have h40 : z_ a 40 _ := hd 3
              exact dp_ hJ (by simp [execOp, h40, go_sem])
          · intro fv w2 ho2 hj hs
            rw [seqv hs [37, 38, 39, 40, 8, 9] (by kernel_rfl)]
            simp only [actV, Act.put, List.drop, List.length, List.setIfInBounds_toArray, List.set_cons_zero, List.set_cons_succ]
            clear hs
            have hm : (j : Int) % 5 = ((j % 5 : Nat) : Int) := by omega
            have hdv : (j : Int) / 5 = ((j / 5 : Nat) : Int) := by omega
            obtain ⟨x, hx⟩ : ∃ x, x = j % 5 := ⟨_, rfl⟩
            obtain ⟨y, hy⟩ : ∃ y, y = j / 5 := ⟨_, rfl⟩
            rw [← hx] at hm
            rw [← hy] at hdv
            have hx5 : x < 5 := by omega
            have hy5 : y < 5 := by omega
            have zo := HD.out.1.then ho2 (fun _ _ h => h.elim)
            have zs := ho2.kept HD.out.2.1 id
            have zP := ho2.kept HD.out.2.2.1 id
            have zB := ho2.kept HD.out.2.2.2 id
            have HD := h4_ zo zs zP zB
            have HXQ := h2_ hx hy
            clear zo zs zP zB ho2 hx hy
            go_upto_region 14 with fail
            have HM := h1_ hm
            clear hm hdv
            have ax4 : IntKind.i64.wrap ((j : Int) % 5 + 4) = ((x + 4 : Nat) : Int) := by rw [HM.out]; exact IntWalk.i64_in _ (by omega)
            have am4 : ((x : Int) + 4).tmod 5 = ((x : Int) + 4) % 5 := Int.tmod_eq_emod_of_nonneg (by omega)
            have b0m4 : (0 : Int) ≤ ((x : Int) + 4) % 5 := by omega
            have b1m4 : ((x : Int) + 4) % 5 < 5 := by omega
            have btm4 : (((x : Int) + 4) % 5).toNat = (x + 4) % 5 := by omega
            have lm4 : (x + 4) % 5 < 5 := by omega
            have ax1 : IntKind.i64.wrap ((j : Int) % 5 + 1) = ((x + 1 : Nat) : Int) := by rw [HM.out]; exact IntWalk.i64_in _ (by omega)
            have am1 : ((x : Int) + 1).tmod 5 = ((x : Int) + 1) % 5 := Int.tmod_eq_emod_of_nonneg (by omega)
            have b0m1 : (0 : Int) ≤ ((x : Int) + 1) % 5 := by omega
            have b1m1 : ((x : Int) + 1) % 5 < 5 := by omega
            have btm1 : (((x : Int) + 1) % 5).toNat = (x + 1) % 5 := by omega
            have lm1 : (x + 1) % 5 < 5 := by omega
            have hlane : xr (A j) (xr (pF A 25 ((x + 4) % 5)) (rot (pF A 25 ((x + 1) % 5)) 1)) = lane A (pF A 25) j := by rw [HXQ.out.1]; exact w1_ A (pF A 25) j
            refine wq_ 14 [] (fun _ => False) [.val (.int .u64 (A j)), .val (.int .i64 ((j : Int) % 5)), .val (.int .i64 ((x + 4 : Nat) : Int)), .val (.int .i64 (((x + 4) % 5 : Nat) : Int)), .val (.pointer (some ⟨P, (x + 4) % 5, none⟩)), .val (.int .u64 ((pF A 25) ((x + 4) % 5))), .val (.int .i64 ((j : Int) % 5)), .val (.int .i64 ((x + 1 : Nat) : Int)), .val (.int .i64 (((x + 1) % 5 : Nat) : Int)), .val (.pointer (some ⟨P, (x + 1) % 5, none⟩)), .val (.int .u64 ((pF A 25) ((x + 1) % 5))), .val (.int .u64 (rot (pF A 25 ((x + 1) % 5)) 1)), .val (.int .u64 (xr (pF A 25 ((x + 4) % 5)) (rot (pF A 25 ((x + 1) % 5)) 1))), .val (.int .u64 (lane A (pF A 25) j))] (fun _ _ => True) (by kernel_rfl) (by kernel_rfl) (trivial) ?_ ?_
            · simp only [a4_, List.take]
              refine ⟨?_, ?_, ?_, ?_, ?_, ?_, ?_, ?_, ?_, ?_, ?_, ?_, ?_, ?_, trivial⟩
              all_goals intro k a wr ho hJ hk hr hf hd
              · have h9 : z_ a 9 (.int .u64 (A j)) := (hf 9).trans rfl
                exact dp_ hJ (by simp [execOp, h9, go_sem])
              · have h10 : z_ a 10 (.int .i64 ((j : Int) % 5)) := (hf 10).trans rfl
                exact dp_ hJ (by simp [execOp, h10, go_sem])
              · have h46 : z_ a 46 _ := hd 1
                exact dp_ hJ (by simp [execOp, h46, go_sem, ax4])
              · have h47 : z_ a 47 _ := hd 2
                exact bc_ (v := .int .i64 (((x + 4) % 5 : Nat) : Int)) (by simp [execOp, h47, go_sem, am4]) ⟨rfl, Only.refl _ _, hJ⟩
              · have h48 : z_ a 48 _ := hd 3
                have h4 : zp_ a 4 P 0 := (hf 4).trans rfl
                exact dp_ hJ (by simp [execOp, h48, h4, go_sem, b0m4, b1m4, btm4])
              · have h49 : z_ a 49 _ := hd 4
                have hc := ab_ (ho.kept HD.out.2.2.1 id) (((x + 4) % 5)) (ci_ 5 (pF A 25) (((x + 4) % 5)) lm4)
                exact bc_ (v := .int .u64 ((pF A 25) ((x + 4) % 5))) (by simp [execOp, h49, hc, go_sem]) ⟨rfl, Only.refl _ _, hJ⟩
              · have h10 : z_ a 10 (.int .i64 ((j : Int) % 5)) := (hf 10).trans rfl
                exact dp_ hJ (by simp [execOp, h10, go_sem])
              · have h51 : z_ a 51 _ := hd 6
                exact dp_ hJ (by simp [execOp, h51, go_sem, ax1])
              · have h52 : z_ a 52 _ := hd 7
                exact bc_ (v := .int .i64 (((x + 1) % 5 : Nat) : Int)) (by simp [execOp, h52, go_sem, am1]) ⟨rfl, Only.refl _ _, hJ⟩
              · have h53 : z_ a 53 _ := hd 8
                have h4 : zp_ a 4 P 0 := (hf 4).trans rfl
                exact dp_ hJ (by simp [execOp, h53, h4, go_sem, b0m1, b1m1, btm1])
              · have h54 : z_ a 54 _ := hd 9
                have hc := ab_ (ho.kept HD.out.2.2.1 id) (((x + 1) % 5)) (ci_ 5 (pF A 25) (((x + 1) % 5)) lm1)
                exact bc_ (v := .int .u64 ((pF A 25) ((x + 1) % 5))) (by simp [execOp, h54, hc, go_sem]) ⟨rfl, Only.refl _ _, hJ⟩
              · have h55 : z_ a 55 _ := hd 10
                refine a0_ (f := 381) (args := #[.int .u64 (pF A 25 ((x + 1) % 5)), .int .i64 1]) (by simp [execOp, h55, go_sem]) ?_
                exact (srot (pF A 25 ((x + 1) % 5)) 1 (by decide) _).mono fun e w' ⟨he, hw⟩ => ⟨_, he, rfl, by rw [← hw]; exact Only.refl _ _, trivial⟩
              · have h50 : z_ a 50 _ := hd 5
                have h56 : z_ a 56 _ := hd 11
                exact bc_ (v := .int .u64 (xr (pF A 25 ((x + 4) % 5)) (rot (pF A 25 ((x + 1) % 5)) 1))) (by simp [execOp, h50, h56, go_sem, k3_]) ⟨rfl, Only.refl _ _, hJ⟩
              · have h45 : z_ a 45 _ := hd 0
                have h57 : z_ a 57 _ := hd 12
                exact dp_ hJ (by simp [execOp, h45, h57, go_sem, k3_, hlane])
            · intro fv w2 ho2 hj hs
              rw [seqv hs [45, 46, 47, 48, 49, 50, 51, 52, 53, 54, 55, 56, 57, 58] (by kernel_rfl)]
              simp only [actV, Act.put, List.drop, List.length, List.setIfInBounds_toArray, List.set_cons_zero, List.set_cons_succ]
              clear hs
              have zo := HD.out.1.then ho2 (fun _ _ h => h.elim)
              have zs := ho2.kept HD.out.2.1 id
              have zP := ho2.kept HD.out.2.2.1 id
              have zB := ho2.kept HD.out.2.2.2 id
              have hT2 := (HW.out.1.only zo (by omega) (by omega))
              have yt := hT2.turns j hjl
              have HD := h4_ zo zs zP zB
              have HT2 := h1_ hT2
              clear zo zs zP zB hT2 ho2 ax4 am4 b0m4 b1m4 btm4 lm4 ax1 am1 b0m1 b1m1 btm1 lm1 hlane
              go_wp2_with fail
              go_at_call 381
              refine (srot (lane A (pF A 25) j) (t j) (HT2.out.small j hjl) _).mono ?_
              rintro e w4 ⟨rfl, rfl⟩
              obtain ⟨z, hz⟩ : ∃ z, z = y + 5 * ((2 * x + 3 * y) % 5) := ⟨_, rfl⟩
              have hz25 : z < 25 := by omega
              have hm := HM.out
              have iz : (y : Int) + 5 * ((2 * ((j : Int) % 5) + 3 * (y : Int)) % 5) = (z : Int) := by omega
              have z0 : (0 : Int) ≤ (z : Int) := by omega
              have z1 : (z : Int) < 25 := by omega
              have zc := ab_ HD.out.2.2.2 z (ci_ 25 (bF t A (pF A 25) j) z hz25)
              have zf := ag_ HD.out.2.2.2 z
              have HZ := h1_ hz
              clear hz hm yt
              go_wp2
              go_roundw
              case rel =>
               have o1 : Only (· = B) w2 (w2.setCell ⟨B, z, none⟩ (.int .u64 (rot (lane A (pF A 25) j) (t j)))) := (Only.refl _ _).setCell _ _ (.inl rfl)
               refine ⟨j + 1, rfl, by omega, ?_, o1.kept HD.out.2.1 (Ne.symm nBs), o1.kept HD.out.2.2.1 (Ne.symm nBP), ?_⟩
               · exact HD.out.1.then o1 (fun b hb h => by omega)
               · have hb := aj_ HD.out.2.2.2 z (.int .u64 (rot (lane A (pF A 25) j) (t j)))
                 rw [hm_ 25 _ z hz25] at hb
                 have hzz : j / 5 + 5 * ((2 * (j % 5) + 3 * (j / 5)) % 5) = z := by rw [HZ.out, HXQ.out.1, HXQ.out.2]
                 rw [bF_succ, hzz]
                 exact hb
              case measure => simp [RowKit.intOf]; omega
        · have e25 : j = 25 := by omega
          rw [e25] at HD
          clear e25
          obtain ⟨bq, hbq⟩ : ∃ bq, bq = bF t A (pF A 25) 25 := ⟨_, rfl⟩
          rw [← hbq] at HD
          have HBQ := h1_ hbq
          have v3 := HD.out.2.1
          rw [← aF_zero A bq] at v3
          have HV3 := h3_ HD.out.1 v3 HD.out.2.2.2
          clear hbq v3 HD hj
          go_wp2_with fail
          go_loopw [75] (fun i w4 => ∃ j : Nat, i = .int .i64 j ∧ j ≤ 25 ∧ Only (· = s) w w4 ∧ w4.heap[s]? = some (.cells (rowF 25 (aF A bq j)).toArray 344 (0, 0)) ∧ w4.heap[B]? = some (.cells (rowF 25 bq).toArray 344 (0, 0))) (fun i _ => 25 - (RowKit.intOf i).toNat)
          case atStart => exact ⟨0, rfl, by omega, HV3.out.1, HV3.out.2.1, HV3.out.2.2⟩
          case round =>
           clear HV3
           obtain ⟨j, rfl, hj, hjo, hjs, hjB⟩ := hrel
           have HD := h3_ hjo hjs hjB
           clear hjo hjs hjB
           by_cases hjl : j < 25
           · have j0 : (0 : Int) ≤ (j : Int) := by omega
             have j25 : (j : Int) < 25 := by omega
             replace hj := hjl
             go_upto_region 21 with fail
             have hm : (j : Int) % 5 = ((j % 5 : Nat) : Int) := by omega
             obtain ⟨x, hx⟩ : ∃ x, x = j % 5 := ⟨_, rfl⟩
             rw [← hx] at hm
             have hx5 : x < 5 := by omega
             have x0 : (0 : Int) ≤ (x : Int) := by omega
             have x5 : (x : Int) < 5 := by omega
             obtain ⟨q1, hq1⟩ : ∃ q, q = j - j % 5 + (j % 5 + 1) % 5 := ⟨_, rfl⟩
             obtain ⟨q2, hq2⟩ : ∃ q, q = j - j % 5 + (j % 5 + 2) % 5 := ⟨_, rfl⟩
             have lq1 : q1 < 25 := by omega
             have lq2 : q2 < 25 := by omega
             have q10 : (0 : Int) ≤ (q1 : Int) := by omega
             have q11 : (q1 : Int) < 25 := by omega
             have q20 : (0 : Int) ≤ (q2 : Int) := by omega
             have q21 : (q2 : Int) < 25 := by omega
             have ax1 : IntKind.i64.wrap ((j : Int) % 5 + 1) = ((x + 1 : Nat) : Int) := by rw [hm]; exact IntWalk.i64_in _ (by omega)
             have am1 : ((x : Int) + 1).tmod 5 = ((x : Int) + 1) % 5 := Int.tmod_eq_emod_of_nonneg (by omega)
             have ax2 : IntKind.i64.wrap ((j : Int) % 5 + 2) = ((x + 2 : Nat) : Int) := by rw [hm]; exact IntWalk.i64_in _ (by omega)
             have am2 : ((x : Int) + 2).tmod 5 = ((x : Int) + 2) % 5 := Int.tmod_eq_emod_of_nonneg (by omega)
             have aq1 : IntKind.i64.wrap ((j : Int) - (j : Int) % 5 + ((x : Int) + 1) % 5) = (q1 : Int) := by rw [IntWalk.i64_in _ (by omega)]; omega
             have aq2 : IntKind.i64.wrap ((j : Int) - (j : Int) % 5 + ((x : Int) + 2) % 5) = (q2 : Int) := by rw [IntWalk.i64_in _ (by omega)]; omega
             have HQ := h2_ hq1 hq2
             have HM := h2_ hm hx
             clear hm hx hq1 hq2
             refine wq_ 24 [] (fun _ => False) [.pt s 0, .val (.int .i64 j), .val (.int .i64 j), .pt B j, .val (.int .u64 (bq j)), .val (.int .i64 ((j : Int) - (j : Int) % 5)), .val (.int .i64 ((j : Int) % 5)), .val (.int .i64 ((x + 1 : Nat) : Int)), .val (.int .i64 (((x + 1) % 5 : Nat) : Int)), .val (.int .i64 ((q1 : Nat) : Int)), .pt B q1, .val (.int .u64 (bq q1)), .val (.int .u64 (bits .xor .u64 18446744073709551615 (bq q1))), .val (.int .i64 ((j : Int) - (j : Int) % 5)), .val (.int .i64 ((j : Int) % 5)), .val (.int .i64 ((x + 2 : Nat) : Int)), .val (.int .i64 (((x + 2) % 5 : Nat) : Int)), .val (.int .i64 ((q2 : Nat) : Int)), .pt B q2, .val (.int .u64 (bq q2)), .val (.int .u64 (bits .and .u64 (bits .xor .u64 18446744073709551615 (bq q1)) (bq q2))), .val (.int .u64 (xr (bq j) (bits .and .u64 (bits .xor .u64 18446744073709551615 (bq q1)) (bq q2)))), .pt s 0, .pt s j] (fun _ _ => True) (by kernel_rfl) (by kernel_rfl) (trivial) ?_ ?_
             · simp only [a4_, List.take]
               refine ⟨?_, ?_, ?_, ?_, ?_, ?_, ?_, ?_, ?_, ?_, ?_, ?_, ?_, ?_, ?_, ?_, ?_, ?_, ?_, ?_, ?_, ?_, ?_, ?_, trivial⟩
               all_goals intro k a wr ho hJ hk hr hf hd
               · have h0 : zp_ a 0 s 0 := (hf 0).trans rfl
                 exact dp_ hJ (by simp [execOp, h0, go_sem])
               · have h12 : z_ a 12 (.int .i64 j) := (hf 12).trans rfl
                 exact dp_ hJ (by simp [execOp, h12, go_sem])
               · have h12 : z_ a 12 (.int .i64 j) := (hf 12).trans rfl
                 exact dp_ hJ (by simp [execOp, h12, go_sem])
               · have h86 : z_ a 86 _ := hd 2
                 have h7 : zp_ a 7 B 0 := (hf 7).trans rfl
                 exact dp_ hJ (by simp [execOp, h86, h7, go_sem, j0, j25])
               · have h87 : z_ a 87 _ := hd 3
                 have hc := ab_ (ho.kept HD.out.2.2 id) (j) (ci_ 25 bq (j) hj)
                 exact dp_ hJ (by simp [execOp, h87, hc, go_sem])
               · have h14 : z_ a 14 (.int .i64 ((j : Int) - (j : Int) % 5)) := (hf 14).trans rfl
                 exact dp_ hJ (by simp [execOp, h14, go_sem])
               · have h13 : z_ a 13 (.int .i64 ((j : Int) % 5)) := (hf 13).trans rfl
                 exact dp_ hJ (by simp [execOp, h13, go_sem])
               · have h90 : z_ a 90 _ := hd 6
                 exact dp_ hJ (by simp [execOp, h90, go_sem, ax1])
               · have h91 : z_ a 91 _ := hd 7
                 exact bc_ (v := .int .i64 (((x + 1) % 5 : Nat) : Int)) (by simp [execOp, h91, go_sem, am1]) ⟨rfl, Only.refl _ _, hJ⟩
               · have h89 : z_ a 89 _ := hd 5
                 have h92 : z_ a 92 _ := hd 8
                 exact dp_ hJ (by simp [execOp, h89, h92, go_sem, aq1])
               · have h93 : z_ a 93 _ := hd 9
                 have h7 : zp_ a 7 B 0 := (hf 7).trans rfl
                 exact dp_ hJ (by simp [execOp, h93, h7, go_sem, q10, q11])
               · have h94 : z_ a 94 _ := hd 10
                 have hc := ab_ (ho.kept HD.out.2.2 id) (q1) (ci_ 25 bq (q1) lq1)
                 exact dp_ hJ (by simp [execOp, h94, hc, go_sem])
               · have h95 : z_ a 95 _ := hd 11
                 exact dp_ hJ (by simp [execOp, h95, go_sem, u64_ones])
               · have h14 : z_ a 14 (.int .i64 ((j : Int) - (j : Int) % 5)) := (hf 14).trans rfl
                 exact dp_ hJ (by simp [execOp, h14, go_sem])
               · have h13 : z_ a 13 (.int .i64 ((j : Int) % 5)) := (hf 13).trans rfl
                 exact dp_ hJ (by simp [execOp, h13, go_sem])
               · have h98 : z_ a 98 _ := hd 14
                 exact dp_ hJ (by simp [execOp, h98, go_sem, ax2])
               · have h99 : z_ a 99 _ := hd 15
                 exact bc_ (v := .int .i64 (((x + 2) % 5 : Nat) : Int)) (by simp [execOp, h99, go_sem, am2]) ⟨rfl, Only.refl _ _, hJ⟩
               · have h97 : z_ a 97 _ := hd 13
                 have h100 : z_ a 100 _ := hd 16
                 exact dp_ hJ (by simp [execOp, h97, h100, go_sem, aq2])
               · have h101 : z_ a 101 _ := hd 17
                 have h7 : zp_ a 7 B 0 := (hf 7).trans rfl
                 exact dp_ hJ (by simp [execOp, h101, h7, go_sem, q20, q21])
               · have h102 : z_ a 102 _ := hd 18
                 have hc := ab_ (ho.kept HD.out.2.2 id) (q2) (ci_ 25 bq (q2) lq2)
                 exact dp_ hJ (by simp [execOp, h102, hc, go_sem])
               · have h96 : z_ a 96 _ := hd 12
                 have h103 : z_ a 103 _ := hd 19
                 exact bc_ (v := .int .u64 (bits .and .u64 (bits .xor .u64 18446744073709551615 (bq q1)) (bq q2))) (by simp [execOp, h96, h103, go_sem]) ⟨rfl, Only.refl _ _, hJ⟩
               · have h88 : z_ a 88 _ := hd 4
                 have h104 : z_ a 104 _ := hd 20
                 exact bc_ (v := .int .u64 (xr (bq j) (bits .and .u64 (bits .xor .u64 18446744073709551615 (bq q1)) (bq q2)))) (by simp [execOp, h88, h104, go_sem, k3_]) ⟨rfl, Only.refl _ _, hJ⟩
               · have h84 : z_ a 84 _ := hd 0
                 exact dp_ hJ (by simp [execOp, h84, go_sem])
               · have h106 : z_ a 106 _ := hd 22
                 have h85 : z_ a 85 _ := hd 1
                 exact dp_ hJ (by simp [execOp, h106, h85, go_sem, j0, j25])
             · intro fv w2 ho2 hj hs
               rw [seqv hs [84, 85, 86, 87, 88, 89, 90, 91, 92, 93, 94, 95, 96, 97, 98, 99, 100, 101, 102, 103, 104, 105, 106, 107] (by kernel_rfl)]
               simp only [actV, Act.put, List.drop, List.length, List.setIfInBounds_toArray, List.set_cons_zero, List.set_cons_succ]
               clear hs
               have zo := HD.out.1.then ho2 (fun _ _ h => h.elim)
               have zs := ho2.kept HD.out.2.1 id
               have zB := ho2.kept HD.out.2.2 id
               have HD := h3_ zo zs zB
               have yc := ab_ zs j (ci_ 25 (aF A bq j) j (by omega))
               have yf := ag_ zs j
               clear zo zs zB ho2 ax1 am1 ax2 am2 aq1 aq2
               go_wp2
               go_roundw
               case rel =>
                have o1 : Only (· = s) w2 (w2.setCell ⟨s, j, none⟩ (.int .u64 (xr (bq j) (bits .and .u64 (bits .xor .u64 18446744073709551615 (bq q1)) (bq q2))))) := (Only.refl _ _).setCell _ _ (.inl rfl)
                refine ⟨j + 1, rfl, by omega, ?_, ?_, o1.kept HD.out.2.2 nBs⟩
                · exact HD.out.1.then o1 (fun b hb h => h)
                · have hb := aj_ HD.out.2.1 j (.int .u64 (xr (bq j) (bits .and .u64 (bits .xor .u64 18446744073709551615 (bq q1)) (bq q2))))
                  rw [hm_ 25 _ j (by omega)] at hb
                  rw [aF_succ, ← HQ.out.1, ← HQ.out.2]
                  exact hb
               case measure => simp [RowKit.intOf]; omega
           · have e25 : j = 25 := by omega
             rw [e25] at HD
             clear e25
             obtain ⟨ar, har⟩ : ∃ ar, ar = aF A bq 25 := ⟨_, rfl⟩
             rw [← har] at HD
             have HAR := h1_ har
             clear har hj
             go_upto_region 23 with fail
             have HD := h3_ True.intro HD.out.2.1 HD.out.1
             refine wq_ 8 [] (fun _ => False) [.pt s 0, .pt s 0, .pt s 0, .val (.int .u64 (ar 0)), .val (.int .u64 (c kr)), .val (.int .u64 (xr (ar 0) (c kr))), .pt s 0, .pt s 0] (fun _ _ => True) (by kernel_rfl) (by kernel_rfl) (trivial) ?_ ?_
             · simp only [a4_, List.take]
               refine ⟨?_, ?_, ?_, ?_, ?_, ?_, ?_, ?_, trivial⟩
               all_goals intro k a wr ho hJ hk hr hf hd
               · have h0 : zp_ a 0 s 0 := (hf 0).trans rfl
                 exact dp_ hJ (by simp [execOp, h0, go_sem])
               · have h109 : z_ a 109 _ := hd 0
                 exact dp_ hJ (by simp [execOp, h109, go_sem])
               · have h110 : z_ a 110 _ := hd 1
                 exact dp_ hJ (by simp [execOp, h110, go_sem])
               · have h111 : z_ a 111 _ := hd 2
                 have hc := ab_ (ho.kept HD.out.2.1 id) (0) (ci_ 25 ar (0) (by decide))
                 exact dp_ hJ (by simp [execOp, h111, hc, go_sem])
               · have h3 : z_ a 3 (.int .u64 (c kr)) := (hf 3).trans rfl
                 exact dp_ hJ (by simp [execOp, h3, go_sem])
               · have h112 : z_ a 112 _ := hd 3
                 have h113 : z_ a 113 _ := hd 4
                 exact dp_ hJ (by simp [execOp, h112, h113, go_sem, k3_])
               · have h109 : z_ a 109 _ := hd 0
                 exact dp_ hJ (by simp [execOp, h109, go_sem])
               · have h115 : z_ a 115 _ := hd 6
                 exact dp_ hJ (by simp [execOp, h115, go_sem])
             · intro fv w2 ho2 hj hs
               rw [seqv hs [109, 110, 111, 112, 113, 114, 115, 116] (by kernel_rfl)]
               simp only [actV, Act.put, List.drop, List.length, List.setIfInBounds_toArray, List.set_cons_zero, List.set_cons_succ]
               clear hs
               have zo := HD.out.2.2.then ho2 (fun _ _ h => h.elim)
               have zs := ho2.kept HD.out.2.1 id
               have HD := h2_ zo zs
               have yc := ab_ zs 0 (ci_ 25 ar 0 (by decide))
               have yf := ag_ zs 0
               clear zo zs ho2
               go_wp2
               go_roundw
               case rel =>
                have o1 : Only (· = s) w2 (w2.setCell ⟨s, 0, none⟩ (.int .u64 (xr (ar 0) (c kr)))) := (Only.refl _ _).setCell _ _ (.inl rfl)
                refine ⟨kr + 1, rfl, by omega, ?_, ?_⟩
                · exact HD.out.1.then o1 (fun b hb h => h)
                · have hb := aj_ HD.out.2 0 (.int .u64 (xr (ar 0) (c kr)))
                  rw [hm_ 25 _ 0 (by decide)] at hb
                  rw [r6_, ← HA.out, r7_, ← HBQ.out, ← HAR.out]
                  exact hb
               case measure => simp [RowKit.intOf]; omega
  · have e24 : kr = 24 := by omega
    rw [e24] at HA
    have HK := h2_ HK.out.1 HK.out.2
    rw [HA.out] at HK
    clear e24
    go_wp2
    refine bodyPost_end (results_none rfl _ _ _) rfl ?_
    exact ⟨rfl, HK.out.1, HK.out.2⟩
end
section
open Go.RowKit Dig
attribute [local go_sem] ak_ af_
theorem ug_ (s : List UInt8) (a : Nat → Int) : mixF s a 0 = a := rfl
theorem uh_ (s : List UInt8) (a : Nat → Int) (k : Nat) : mixF s a (k + 1) = put (mixF s a k) (k / 8) (xr (mixF s a k (k / 8)) (IntKind.u64.wrap (((s[k]?.getD 0).toNat : Int) * 2 ^ (8 * (k % 8))))) := rfl
theorem o7_ (t : Nat → Nat) (c : Nat → Int) (s : List UInt8) (a : Nat → Int) : gf_ t c s a = jw_ t c (mixF s a 136) 24 := rfl
attribute [local irreducible] rowF mixF jw_ xr gf_
theorem ui_ (t : Nat → Nat) (c a : Nat → Int) (bl : List UInt8) (hbl : bl.length = 136) (s : Nat) (hs2 : 2 < s) (w : World) (hT : Tabs t c w) (h : w.heap[s]? = some (.cells (rowF 25 a).toArray 344 (0, 0))) :
 Calls Tryz.prog 181 #[.pointer (some ⟨s, 0, none⟩), strB bl] w fun e w' => e = .returned (.tuple #[]) ∧ Only (· = s) w w' ∧ w'.heap[s]? = some (.cells (rowF 25 (gf_ t c bl a)).toArray 344 (0, 0)) := by
 unfold strB
 have hget : ∀ j, j < 136 → (⟨bl.toArray⟩ : ByteArray)[j]? = some (bl[j]?.getD 0) := by
  intro j hj
  have hj2 : j < bl.length := by omega
  rw [List.getElem?_eq_getElem hj2]
  exact (getElem?_pos (⟨bl.toArray⟩ : ByteArray) j hj2).trans rfl
 have hsz : (⟨bl.toArray⟩ : ByteArray).size = 136 := hbl
 obtain ⟨S, hS⟩ : ∃ S, S = (⟨bl.toArray⟩ : ByteArray) := ⟨_, rfl⟩
 rw [← hS] at hget hsz
 rw [← hS]
 have HW := h3_ hT h hget
 have HS := h1_ hsz
 have ls := lt_of_block h
 clear hT h hget hS hsz
 go_enter Tryz.func181, Tryz.ntmps181
 go_wp2_with fail
 rw [HS.out]
 go_loopw [7] (fun i wr => ∃ j : Nat, i = .int .i64 j ∧ j ≤ 136 ∧ Only (· = s) w wr ∧ wr.heap[s]? = some (.cells (rowF 25 (mixF bl a j)).toArray 344 (0, 0))) (fun i _ => 136 - (RowKit.intOf i).toNat)
 case atStart => exact ⟨0, rfl, by omega, Only.refl _ _, by rw [ug_]; exact HW.out.2.1⟩
 case round =>
  obtain ⟨j, rfl, hj, hjo, hjs⟩ := hrel
  by_cases hjl : j < 136
  · obtain ⟨m, hm⟩ : ∃ m, m = mixF bl a j := ⟨_, rfl⟩
    rw [← hm] at hjs
    have HM := h1_ hm
    have HD := h2_ hjo hjs
    have hub := HW.out.2.2 j hjl
    obtain ⟨ub, eub⟩ : ∃ ub, ub = bl[j]?.getD 0 := ⟨_, rfl⟩
    rw [← eub] at hub
    have HUB := h2_ hub eub
    clear hm hjo hjs hub eub
    have j0 : (0 : Int) ≤ (j : Int) := by omega
    have j136 : (j : Int) < 136 := by omega
    go_upto_region 3 with fail
    have hjS : j < S.size := by rw [HS.out]; exact hjl
    have hub : S[j]'hjS = ub := by have h1 := HUB.out.1; rw [getElem?_pos S j hjS] at h1; exact Option.some.inj h1
    obtain ⟨q, hq⟩ : ∃ q, q = j / 8 := ⟨_, rfl⟩
    obtain ⟨r, hr⟩ : ∃ r, r = j % 8 := ⟨_, rfl⟩
    have lq : q < 25 := by omega
    have q0 : (0 : Int) ≤ (q : Int) := by omega
    have q25 : (q : Int) < 25 := by omega
    have r8 : r < 8 := by omega
    have dq : (j : Int).tdiv 8 = (q : Int) := by rw [Int.tdiv_eq_ediv_of_nonneg j0]; omega
    have wq : IntKind.i64.wrap (q : Int) = (q : Int) := IntWalk.i64_in _ (by omega)
    have dr : (j : Int).tmod 8 = (r : Int) := by rw [Int.tmod_eq_emod_of_nonneg j0]; omega
    have wr8 : IntKind.i64.wrap (r : Int) = (r : Int) := IntWalk.i64_in _ (by omega)
    have w8 : IntKind.i64.wrap (8 * (r : Int)) = 8 * (r : Int) := IntWalk.i64_in _ (by omega)
    have n0 : ¬ (8 * (r : Int)) < 0 := by omega
    have n8 : (8 * (r : Int)).toNat = 8 * r := by omega
    have nm : min (8 * r) 64 = 8 * r := by omega
    have hu256 : ub.toNat < 256 := UInt8.toNat_lt _
    have wb : IntKind.u64.wrap (ub.toNat : Int) = (ub.toNat : Int) := by rw [IntKind.wrap_u64]; omega
    have HQ := h2_ hq hr
    clear hq hr
    refine wq_ 17 [] (fun _ => False) [.pt s 0, .val (.int .i64 j), .val (.int .i64 ((q : Nat) : Int)), .pt s 0, .pt s q, .val (.int .u64 (m q)), .val (.string S), .val (.int .i64 j), .val (.int .u8 (ub.toNat : Int)), .val (.int .u64 (ub.toNat : Int)), .val (.int .i64 j), .val (.int .i64 ((r : Nat) : Int)), .val (.int .i64 ((8 * r : Nat) : Int)), .val (.int .u64 (IntKind.u64.wrap ((ub.toNat : Int) * 2 ^ (8 * r)))), .val (.int .u64 (xr (m q) (IntKind.u64.wrap ((ub.toNat : Int) * 2 ^ (8 * r))))), .pt s 0, .pt s q] (fun _ _ => True) (by kernel_rfl) (by kernel_rfl) (trivial) ?_ ?_
    · simp only [a4_, List.take]
      refine ⟨?_, ?_, ?_, ?_, ?_, ?_, ?_, ?_, ?_, ?_, ?_, ?_, ?_, ?_, ?_, ?_, ?_, trivial⟩
      all_goals intro k a wr ho hJ hk hr hf hd
      · have h0 : zp_ a 0 s 0 := (hf 0).trans rfl
        exact dp_ hJ (by simp [execOp, h0, go_sem])
      · have h4 : z_ a 4 (.int .i64 j) := (hf 4).trans rfl
        exact dp_ hJ (by simp [execOp, h4, go_sem])
      · have h11 : z_ a 11 _ := hd 1
        exact dp_ hJ (by simp [execOp, h11, go_sem, dq, wq])
      · have h10 : z_ a 10 _ := hd 0
        exact dp_ hJ (by simp [execOp, h10, go_sem])
      · have h13 : z_ a 13 _ := hd 3
        have h12 : z_ a 12 _ := hd 2
        exact dp_ hJ (by simp [execOp, h13, h12, go_sem, q0, q25])
      · have h14 : z_ a 14 _ := hd 4
        have hc := ab_ (ho.kept HD.out.2 id) (q) (ci_ 25 m (q) lq)
        exact dp_ hJ (by simp [execOp, h14, hc, go_sem])
      · have h1 : z_ a 1 (.string S) := (hf 1).trans rfl
        exact dp_ hJ (by simp [execOp, h1, go_sem])
      · have h4 : z_ a 4 (.int .i64 j) := (hf 4).trans rfl
        exact dp_ hJ (by simp [execOp, h4, go_sem])
      · have h16 : z_ a 16 _ := hd 6
        have h17 : z_ a 17 _ := hd 7
        exact dp_ hJ (by simp [execOp, h16, h17, go_sem, hjS, hub])
      · have h18 : z_ a 18 _ := hd 8
        exact dp_ hJ (by simp [execOp, h18, go_sem, wb])
      · have h4 : z_ a 4 (.int .i64 j) := (hf 4).trans rfl
        exact dp_ hJ (by simp [execOp, h4, go_sem])
      · have h20 : z_ a 20 _ := hd 10
        exact dp_ hJ (by simp [execOp, h20, go_sem, dr, wr8])
      · have h21 : z_ a 21 _ := hd 11
        exact dp_ hJ (by simp [execOp, h21, go_sem, w8])
      · have h19 : z_ a 19 _ := hd 9
        have h22 : z_ a 22 _ := hd 12
        exact bc_ (v := .int .u64 (IntKind.u64.wrap ((ub.toNat : Int) * 2 ^ (8 * r)))) (by simp [execOp, h19, h22, go_sem, n0, n8, nm]) ⟨rfl, Only.refl _ _, hJ⟩
      · have h15 : z_ a 15 _ := hd 5
        have h23 : z_ a 23 _ := hd 13
        exact bc_ (v := .int .u64 (xr (m q) (IntKind.u64.wrap ((ub.toNat : Int) * 2 ^ (8 * r))))) (by simp [execOp, h15, h23, go_sem, k3_]) ⟨rfl, Only.refl _ _, hJ⟩
      · have h10 : z_ a 10 _ := hd 0
        exact dp_ hJ (by simp [execOp, h10, go_sem])
      · have h25 : z_ a 25 _ := hd 15
        have h12 : z_ a 12 _ := hd 2
        exact dp_ hJ (by simp [execOp, h25, h12, go_sem, q0, q25])
    · intro fv w2 ho2 hj hs
      rw [seqv hs [10, 11, 12, 13, 14, 15, 16, 17, 18, 19, 20, 21, 22, 23, 24, 25, 26] (by kernel_rfl)]
      simp only [actV, Act.put, List.drop, List.length, List.setIfInBounds_toArray, List.set_cons_zero, List.set_cons_succ]
      clear hs
      have zs := ho2.kept HD.out.2 id
      have zo := HD.out.1.then ho2 (fun _ _ h => h.elim)
      have yc := ab_ zs q (ci_ 25 m q lq)
      have yf := ag_ zs q
      have HD := h2_ zo zs
      clear zo zs ho2 hub dq wq dr wr8 w8 n0 n8 nm wb
      go_wp2
      go_roundw
      case rel =>
       have o1 : Only (· = s) w2 (w2.setCell ⟨s, q, none⟩ (.int .u64 (xr (m q) (IntKind.u64.wrap ((ub.toNat : Int) * 2 ^ (8 * r)))))) := (Only.refl _ _).setCell _ _ (.inl rfl)
       refine ⟨j + 1, rfl, by omega, ?_, ?_⟩
       · exact HD.out.1.then o1 (fun b hb h => h)
       · have hb := aj_ HD.out.2 q (.int .u64 (xr (m q) (IntKind.u64.wrap ((ub.toNat : Int) * 2 ^ (8 * r)))))
         rw [hm_ 25 _ q lq] at hb
         rw [uh_, ← HUB.out.2, ← HQ.out.1, ← HQ.out.2, ← HM.out]
         exact hb
      case measure => simp [RowKit.intOf]; omega
  · have e136 : j = 136 := by omega
    rw [e136] at hjs
    have HD := h3_ hjo hjs (HW.out.1.only hjo (by omega) (by omega))
    clear e136 hjs hjo
    go_wp2_with fail
    go_at_call 300
    refine (sperm t c (mixF bl a 136) s hs2 _ HD.out.2.2 HD.out.2.1).mono ?_
    rintro e w1 ⟨rfl, ho1, hs1⟩
    have H1 := h2_ ho1 hs1
    clear ho1 hs1
    go_wp2
    go_end0
    rw [o7_]
    exact ⟨rfl, HD.out.1.then H1.out.1 (fun b hb h => h), H1.out.2⟩
end
end Go.Proofs.YtacaejpamidkcaaGreatDoor
