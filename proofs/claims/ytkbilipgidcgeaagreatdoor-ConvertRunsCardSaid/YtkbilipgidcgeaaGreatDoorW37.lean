/- convert: Run with code. -/
import Derived.IntWalk
import Derived.Deep.QuietTactic
import Derived.BigQuiet
import Derived.StillTailTactics
import Derived.Test.YtkbilipgidcgeaaGreatDoorW35
import Derived.Test.YtkbilipgidcgeaaGreatDoorW36
import Derived.Test.YtkbilipgidcgeaaGreatDoorW29
import Derived.Test.YtkbilipgidcgeaaGreatDoorW10
set_option linter.unusedVariables false
set_option linter.unusedSimpArgs false
namespace Go.Proofs.YtkbilipgidcgeaaGreatDoor
open Go.RowKit
attribute [local go_sem] ext_cell ext_frozen
attribute [local irreducible] labCells modC threadC

theorem areas_like {ns ps : List Part} (h : AreasOk ps) (hl : ns.length = ps.length) (he : ∀ i (hi : i < ns.length) (hi' : i < ps.length), ns[i].at_ = ps[i].at_ ∧ ns[i].size = ps[i].size) : AreasOk ns where
  each := fun q hq => by
    obtain ⟨i, hi, rfl⟩ := List.getElem_of_mem hq
    obtain ⟨e1, e2⟩ := he i hi (by omega)
    rw [e1, e2]
    exact h.each _ (List.getElem_mem _)
  apart := fun i j hi hj hij => by
    obtain ⟨e1, e2⟩ := he i hi (by omega)
    obtain ⟨e3, e4⟩ := he j hj (by omega)
    rw [e1, e2, e3]
    exact h.apart i j (by omega) (by omega) hij
  few := by rw [hl]; exact h.few

/-- The same parts, but for their bytes. -/
structure SameBut (qs ps : List Part) : Prop where
  len : qs.length = ps.length
  each : ∀ i (h : i < qs.length) (h' : i < ps.length), ∃ d, qs[i] = { ps[i] with data := d }

set_option maxRecDepth 100000 in
set_option maxHeartbeats 4000000 in
theorem crun_code (B : ByteArray) (p s l gm cm g o cap gp capp : Nat) (pcs : List Pc) (oa n0 to_ code : Int) (o1 s1 f1 : ByteArray) (bs : List UInt8) (bA : ByteArray) (hbA : bA = ⟨bs.toArray⟩) (ps Q2 : List Part) (k : Nat) (rb : Bool) (w : World) (hP : ProcLite B w p s l gm cm)
    (hpc : PcsAt w g o pcs) (hg : g < w.heap.size) (hlen : pcs.length ≤ 100) (h0 : 0 ≤ n0) (h1 : n0 ≤ 100000) (h2 : bs.length ≤ 100000) (hok : pcs.all (withinB · n0 bs.length) = true)
    (hA : AreasOk ps) (hsp : SpaceAt w s (.slice (some ⟨gp, 0, none⟩) ps.length capp) ps) (hk1 : LastAt ps oa k) (hin1 : oa - (ps[k]'hk1.lt).at_ + n0 ≤ (ps[k]'hk1.lt).size) (hk2 : LastAt ps to_ k) (hin2 : to_ - (ps[k]'hk1.lt).at_ + bs.length ≤ (ps[k]'hk1.lt).size)
    (hcode : (code != -1) = true) (hcb : 0 ≤ code) (hcb2 : code ≤ 1000) (hf : Forms w) (hf0 : ¬ spaceFoot s (.slice (some ⟨gp, 0, none⟩) ps.length capp) ps 0) (hQ2 : SameBut Q2 ps)
    (hrun : ∀ (W : World) (bb : Nat) (thv : Value), W.heap[p]? = some (.cells (procC s bb l thv).toArray 81 (0, 0)) → SpaceAt W s (.slice (some ⟨gp, 0, none⟩) ps.length capp) (ps.set k ((ps[k]'hk1.lt).put to_ (applyL (readL (ps[k]'hk1.lt) oa n0) pcs bs))) → Forms W →
      Calls Tryz.prog 36 #[.pointer (some ⟨p, 0, none⟩), .int .i64 (512 + code), .int .i64 oa, .int .i64 to_] W fun e w' => e = .returned (.bool rb) ∧ Only (spaceFoot s (.slice (some ⟨gp, 0, none⟩) ps.length capp) ps) W w' ∧
        ∃ g' cap', SpaceAt w' s (.slice (some ⟨g', 0, none⟩) ps.length cap') Q2 ∧ (g' = gp ∨ W.heap.size ≤ g')) :
    Calls Tryz.prog 12 #[.pointer (some ⟨p, 0, none⟩), .int .i64 0, .agg #[.int .i64 oa, .int .i64 n0], .int .i64 to_, .agg (convC o1 s1 f1 (.slice (some ⟨g, o, none⟩) pcs.length cap) code), .string bA] w fun e w' => e = .returned (.int .i64 (if rb = true then 0 else 16)) ∧
      Only (spaceFoot s (.slice (some ⟨gp, 0, none⟩) ps.length capp) ps) w w' ∧ ∃ g' cap', SpaceAt w' s (.slice (some ⟨g', 0, none⟩) ps.length cap') (if rb = true then Q2 else ps) ∧ (g' = gp ∨ w.heap.size ≤ g') := by
  have HRUN := Lib.hid hrun
  have HFF := Lib.hid (And.intro hf (And.intro hf0 hQ2))
  clear hrun hf hf0 hQ2
  obtain ⟨bb, thv, hp⟩ := hP.head
  have hklt := hk1.lt
  have HLEN := Lib.hid (show (readL (ps[k]'hk1.lt) oa n0).length = n0.toNat from by
    obtain ⟨b1, b2, cur, b3, b4, b5⟩ := hsp.bytes.2 _ (List.getElem_mem hk1.lt)
    have := hk1.le
    simp [readL]; omega)
  have HP := Lib.hid (And.intro hP hp)
  have HC := Lib.hid hpc
  have hsz : bA.size = bs.length := by subst hbA; simp [ByteArray.size]
  have h2' : bA.size ≤ 100000 := by omega
  have HB := Lib.hid (And.intro hok (And.intro hbA hsz))
  have HS := Lib.hid (And.intro hA (And.intro hsp (And.intro hin1 hin2)))
  clear hP hpc hok hp hsz hbA hA hsp hin1 hin2 h2
  unfold convC
  go_enter Tryz.func12, Tryz.ntmps12
  go_wp2_with (first
    | (go_at_call 32; refine (pmods B p s l gm cm _ (HP.out.1.below (by go_grown))).mono ?_
       rintro e w1 ⟨hb1, gx, cx, rfl, hown1⟩
       have hbase := (row_cell hown1 26 (modC_get26 B 512 1)).1
       have lgx := (ownsRow_lt hown1).2.1
       have k8 := (hb1.block w.heap.size (by simp; omega)).trans (block_old (heap_alloc_new w _))
       have k10 := (hb1.block (w.heap.size + 1) (by simp)).trans (heap_alloc2_new w _ _)
       have e1 := cell_in k8 1 rfl
       have m3 := cell_in k10 3 rfl
       have ls1 := size_call2 hb1
       have hB1 := below_call (((Below.refl _ _).alloc (Nat.le_refl _) _).alloc (by simp) _) hb1
       have lgx0 : w.heap.size ≤ gx := by have := (ownsRow_lt hown1).1; simp at this; omega
       have HGX := Lib.hid (And.intro hbase lgx0)
       have H1 := Lib.hid (And.intro hB1 (And.intro k8 k10)); clear hb1 hown1 k8 k10 hB1 lgx0))
  go_loopw [12, 50] (fun r i wr => ∃ k : Nat, k ≤ pcs.length ∧ i = .int .i64 k ∧ r = .int .i64 0 ∧ Below w1.heap.size w1 wr) (fun _ i _ => pcs.length - (pI i).toNat)
  case atStart => exact ⟨0, Nat.zero_le _, rfl, rfl, Below.refl _ _⟩
  case round =>
    obtain ⟨j, hj, rfl, rfl, hb⟩ := hrel
    have hsz := hb.size
    have hwr : w.heap.size < wr.heap.size := by omega
    have hgr : g < wr.heap.size := by omega
    by_cases hlt : j < pcs.length
    · obtain ⟨d0, d1, d2⟩ := ((HC.out.below H1.out.1).below hb).three j hlt
      have f1' := (hb.cell (p := ⟨w.heap.size, 1, none⟩) (show w.heap.size < w1.heap.size by omega)).trans e1
      obtain ⟨x, hx⟩ : ∃ x, x = pcs[j] := ⟨_, rfl⟩
      rw [← hx] at d0 d1 d2
      have HW := Lib.hid (show withinB x n0 bA.size = true by rw [HB.out.2.2, hx]; exact List.all_eq_true.1 HB.out.1 _ (List.getElem_mem hlt))
      have HH := Lib.hid hb
      clear hx hb
      go_wp2_with (first
        | ((with_reducible refine at_store_law ?_); refine wpList_store_row rfl _ _ _ rfl _ _ rfl rfl _ _ (by (repeat (first | assumption | exact heap_alloc_new _ _ | refine block_old ?_ | refine block_drew ?_ | apply setRow_heap | (refine (setRow_other _ _ _ _ ?_).trans ?_; omega)))) (by kernel_rfl) (by rfl) (by simp [Value.oneCell']) ?_; (try simp only [World.setRow_alloc_new]))
        | (go_at_call 33; refine (cwithin x n0 bA.size _ h0 h1 (by omega) (by omega)).mono ?_; rintro e w2 ⟨rfl, hb2⟩; rw [HW.out]; have H2 := Lib.hid hb2; clear hb2))
      go_roundw
      case rel => exact ⟨j + 1, by omega, by go_num, rfl, HH.out.trans (below_call ((Below.refl _ _).alloc (Nat.le_refl _) _) H2.out |>.mono HH.out.size)⟩
      case measure => simp [pI]; omega
    · obtain rfl : j = pcs.length := by omega
      have k8 := (hb.block _ (lt_of_block H1.out.2.1)).trans H1.out.2.1
      have k10 := (hb.block _ (lt_of_block H1.out.2.2)).trans H1.out.2.2
      have HH := Lib.hid (And.intro (H1.out.1.trans (hb.mono H1.out.1.size)) (And.intro k8 k10))
      have HGr := Lib.hid (And.intro ((hb.cell (p := ⟨gx, 26, none⟩) lgx).trans HGX.out.1) (Nat.lt_of_lt_of_le lgx hb.size))
      clear hb k8 k10 e1 m3
      go_upto_region 10 with fail
      obtain ⟨hB, k8, k10⟩ := HH.out
      have kp := (hB.block _ (lt_of_block HP.out.2)).trans HP.out.2
      have ksp := HS.out.2.1.below hB
      refine wp_region_facts [.val (.pointer (some ⟨p, 0, none⟩)), .val (.pointer (some ⟨s, 0, none⟩)), .val (.pointer (some ⟨w.heap.size, 0, none⟩)), .val (.int .i64 oa), .val (.pointer (some ⟨w.heap.size, 1, none⟩)), .val (.int .i64 n0), .val (.tuple #[.string ⟨(readL (ps[k]'hk1.lt) oa n0).toArray⟩, .int .i64 0]), .val (.tuple #[.string ⟨(readL (ps[k]'hk1.lt) oa n0).toArray⟩, .int .i64 0]), .val (.string ⟨(readL (ps[k]'hk1.lt) oa n0).toArray⟩), .val (.int .i64 0), .val (.string ⟨(readL (ps[k]'hk1.lt) oa n0).toArray⟩), .val (.int .i64 0)] (by kernel_rfl) (by kernel_rfl) ?_ ?_
      · simp only [stepsAll, List.take, List.length]
        refine ⟨?_, ?_, ?_, ?_, ?_, ?_, ?_, ?_, ?_, ?_, ?_, ?_, ?_⟩
        all_goals first | trivial | (intro a wr hb hf hd)
        all_goals have hf0 : a.tmps[(0 : Nat)]?.getD undef = .pointer (some ⟨p, 0, none⟩) := (hf 0 (by decide +kernel)).trans rfl
        all_goals have hf8 : a.tmps[(8 : Nat)]?.getD undef = .pointer (some ⟨w.heap.size, 0, none⟩) := (hf 8 (by decide +kernel)).trans rfl
        · exact grow_tmp _ rfl ⟨hf0, fun h => by cases h⟩
        · have h63 : a.tmps[(63 : Nat)]?.getD undef = .pointer (some ⟨p, 0, none⟩) := hd 0 (by simp) (by kernel_rfl)
          refine grow_call (f := 9) (args := #[.pointer (some ⟨p, 0, none⟩)]) (by simp [execOp, h63, go_sem]) ?_
          refine (pspace p s bb l thv _ ((hb.block _ (lt_of_block kp)).trans kp)).mono ?_
          rintro e w3 ⟨rfl, rfl⟩
          exact ⟨_, rfl, Below.refl _ _, rfl, fun h => by cases h⟩
        · exact grow_value (v := .pointer (some ⟨w.heap.size, 0, none⟩)) (by simp [execOp, hf8, go_sem]) (Below.refl _ _) ⟨rfl, fun h => by cases h⟩
        · have h65 : a.tmps[(65 : Nat)]?.getD undef = .pointer (some ⟨w.heap.size, 0, none⟩) := hd 2 (by simp) (by kernel_rfl)
          have hc := cell_l ((hb.block _ (lt_of_block k8)).trans k8) 0 (rfl)
          exact grow_value (v := .int .i64 oa) (by simp [execOp, h65, hc, go_sem]) (Below.refl _ _) ⟨rfl, fun h => by cases h⟩
        · exact grow_value (v := .pointer (some ⟨w.heap.size, 1, none⟩)) (by simp [execOp, hf8, go_sem]) (Below.refl _ _) ⟨rfl, fun h => by cases h⟩
        · have h67 : a.tmps[(67 : Nat)]?.getD undef = .pointer (some ⟨w.heap.size, 1, none⟩) := hd 4 (by simp) (by kernel_rfl)
          have hc := cell_l ((hb.block _ (lt_of_block k8)).trans k8) 1 (rfl)
          exact grow_value (v := .int .i64 n0) (by simp [execOp, h67, hc, go_sem]) (Below.refl _ _) ⟨rfl, fun h => by cases h⟩
        · have h64 : a.tmps[(64 : Nat)]?.getD undef = .pointer (some ⟨s, 0, none⟩) := hd 1 (by simp) (by kernel_rfl)
          have h66 : a.tmps[(66 : Nat)]?.getD undef = .int .i64 oa := hd 3 (by simp) (by kernel_rfl)
          have h68 : a.tmps[(68 : Nat)]?.getD undef = .int .i64 n0 := hd 5 (by simp) (by kernel_rfl)
          refine grow_call (f := 11) (args := #[.pointer (some ⟨s, 0, none⟩), .int .i64 oa, .int .i64 n0]) (by simp [execOp, h64, h66, h68, go_sem]) ?_
          refine (read_at s _ ps oa n0 _ HS.out.1 (ksp.below hb) k hk1 HS.out.2.2.1 h0).mono ?_
          rintro e w3 ⟨hb3, rfl⟩
          exact ⟨_, rfl, hb3, rfl, fun h => by cases h⟩
        · have h69 : a.tmps[(69 : Nat)]?.getD undef = .tuple #[.string ⟨(readL (ps[k]'hk1.lt) oa n0).toArray⟩, .int .i64 0] := hd 6 (by simp) (by kernel_rfl)
          exact grow_tmp _ rfl ⟨h69, fun h => by cases h⟩
        · have h62 : a.tmps[(62 : Nat)]?.getD undef = .tuple #[.string ⟨(readL (ps[k]'hk1.lt) oa n0).toArray⟩, .int .i64 0] := hd 7 (by simp) (by kernel_rfl)
          exact grow_value (v := .string ⟨(readL (ps[k]'hk1.lt) oa n0).toArray⟩) (by simp [execOp, h62, go_sem]) (Below.refl _ _) ⟨rfl, fun h => by cases h⟩
        · have h62 : a.tmps[(62 : Nat)]?.getD undef = .tuple #[.string ⟨(readL (ps[k]'hk1.lt) oa n0).toArray⟩, .int .i64 0] := hd 7 (by simp) (by kernel_rfl)
          exact grow_value (v := .int .i64 0) (by simp [execOp, h62, go_sem]) (Below.refl _ _) ⟨rfl, fun h => by cases h⟩
        · have h70 : a.tmps[(70 : Nat)]?.getD undef = .string ⟨(readL (ps[k]'hk1.lt) oa n0).toArray⟩ := hd 8 (by simp) (by kernel_rfl)
          exact grow_value (v := .string ⟨(readL (ps[k]'hk1.lt) oa n0).toArray⟩) (by simp [execOp, h70, go_sem]) (Below.refl _ _) ⟨rfl, fun h => by cases h⟩
        · have h71 : a.tmps[(71 : Nat)]?.getD undef = .int .i64 0 := hd 9 (by simp) (by kernel_rfl)
          exact grow_value (v := .int .i64 0) (by simp [execOp, h71, go_sem]) (Below.refl _ _) ⟨rfl, fun h => by cases h⟩
      · intro fv w2 hb2 hs hn hne
        have g63 : fv 63 = .pointer (some ⟨p, 0, none⟩) := hs 0 (by simp)
        have g64 : fv 64 = .pointer (some ⟨s, 0, none⟩) := hs 1 (by simp)
        have g65 : fv 65 = .pointer (some ⟨w.heap.size, 0, none⟩) := hs 2 (by simp)
        have g66 : fv 66 = .int .i64 oa := hs 3 (by simp)
        have g67 : fv 67 = .pointer (some ⟨w.heap.size, 1, none⟩) := hs 4 (by simp)
        have g68 : fv 68 = .int .i64 n0 := hs 5 (by simp)
        have g69 : fv 69 = .tuple #[.string ⟨(readL (ps[k]'hk1.lt) oa n0).toArray⟩, .int .i64 0] := hs 6 (by simp)
        have g62 : fv 62 = .tuple #[.string ⟨(readL (ps[k]'hk1.lt) oa n0).toArray⟩, .int .i64 0] := hs 7 (by simp)
        have g70 : fv 70 = .string ⟨(readL (ps[k]'hk1.lt) oa n0).toArray⟩ := hs 8 (by simp)
        have g71 : fv 71 = .int .i64 0 := hs 9 (by simp)
        have g16 : fv 16 = .string ⟨(readL (ps[k]'hk1.lt) oa n0).toArray⟩ := hs 10 (by simp)
        have g17 : fv 17 = .int .i64 0 := hs 11 (by simp)
        rw [show (List.range (List.length _)).map (dstOf _) = [63, 64, 65, 66, 67, 68, 69, 62, 70, 71, 16, 17] from by kernel_rfl]
        simp only [actOf, List.foldl, Act.put, List.drop, List.length, g63, g64, g65, g66, g67, g68, g69, g62, g70, g71, g16, g17, List.setIfInBounds_toArray, List.set_cons_zero, List.set_cons_succ]
        clear hs hn hne g63 g64 g65 g66 g67 g68 g69 g62 g70 g71 g16 g17
        have jB := hB.trans (hb2.mono hB.size)
        have j8 := (hb2.block _ (lt_of_block k8)).trans k8
        have j10 := (hb2.block _ (lt_of_block k10)).trans k10
        have jp := (hb2.block _ (lt_of_block kp)).trans kp
        have jsp := ksp.below hb2
        have HG2 := Lib.hid (And.intro ((hb2.cell (p := ⟨gx, 26, none⟩) HGr.out.2).trans HGr.out.1) (Nat.lt_of_lt_of_le HGr.out.2 hb2.size))
        have HJ := Lib.hid (And.intro jB (And.intro j8 (And.intro j10 (And.intro jp jsp))))
        clear hB hb2 k8 k10 kp ksp jB j8 j10 jp jsp HH
        go_wp2_with fail
        go_at_call 9
        refine (pspace p s bb l thv _ HJ.out.2.2.2.1).mono ?_
        rintro e w3 ⟨rfl, rfl⟩
        go_wp2_with fail
        go_at_call 11
        refine (read_at s _ ps to_ bA.size _ HS.out.1 HJ.out.2.2.2.2 k hk2 (by rw [HB.out.2.2]; exact HS.out.2.2.2) (by omega)).mono ?_
        rintro e w3 ⟨hb3, rfl⟩
        have hcv := fun (w : World) (s : ByteArray) => run_bytes_of_string (P := Tryz.prog) w 9 76 5 s Tryz.underlying9 Tryz.underlying76 Tryz.underlying5
        obtain ⟨jB, j8, j10, jp, jsp⟩ := HJ.out
        have m8 := (hb3.block _ (lt_of_block j8)).trans j8
        have m10 := (hb3.block _ (lt_of_block j10)).trans j10
        have mp := (hb3.block _ (lt_of_block jp)).trans jp
        have msp := jsp.below hb3
        have HG3 := Lib.hid (And.intro ((hb3.cell (p := ⟨gx, 26, none⟩) HG2.out.2).trans HG2.out.1) (Nat.lt_of_lt_of_le HG2.out.2 hb3.size))
        have mB := jB.trans (hb3.mono jB.size)
        have e3 := cell_in m10 3 rfl
        have HM := Lib.hid (And.intro mB (And.intro m8 (And.intro m10 (And.intro mp msp))))
        have l3 := mB.size
        have l8 := lt_of_block m8
        have l10 := lt_of_block m10
        clear jB j8 j10 jp jsp m8 m10 mp msp mB HJ hb3
        go_wp2_with fail
        obtain ⟨K, hK⟩ : ∃ K, K = grownCap w3 bA.size 0 5 := ⟨_, rfl⟩
        have hK2 : bA.size ≤ K := by rw [hK]; exact grownCap_ge _ _ _ _
        rw [← hK]
        obtain ⟨C, hC⟩ : ∃ C, C = bytesRow bA K := ⟨_, rfl⟩
        rw [← hC]
        have hCl : C.toList = byteCells bs ++ List.replicate (K - bs.length) (.int .u8 0) := by
          rw [hC, HB.out.2.1]; simp [bytesRow, byteCells, ByteArray.size]
        have hCs : bs.length ≤ C.size := by rw [← Array.length_toList, hCl]; simp [byteCells_length]
        refine name_world fun W hW => ?_
        have hbW : Below w3.heap.size w3 W := by rw [← hW]; go_grown
        have hB0 : W.heap[w3.heap.size]? = some (.cells C.toList.toArray 5 (C.size, C.size + 1)) := by rw [← hW]; exact heap_alloc_new w3 _
        have mBW := HM.out.1.trans (hbW.mono l3)
        have hlW := lt_of_block hB0
        have hgW : g < W.heap.size := Nat.lt_of_lt_of_le hg mBW.size
        have hgne : g ≠ w3.heap.size := by omega
        have HW := Lib.hid (And.intro mBW (And.intro hB0 (And.intro hCl (And.intro hbW (HC.out.below mBW)))))
        clear hB0 hCl mBW hbW hC hK hW
        go_loopw [92] (fun i wr => ∃ (j : Nat) (l : List Value), j ≤ pcs.length ∧ i = .int .i64 j ∧ Only (· = w3.heap.size) W wr ∧ l.length = C.size ∧ l.take bs.length = byteCells (applyL (readL (ps[k]'hk1.lt) oa n0) (pcs.take j) bs) ∧
            wr.heap[w3.heap.size]? = some (.cells l.toArray 5 (C.size, C.size + 1))) (fun i _ => pcs.length - (pI i).toNat)
        case atStart =>
          refine ⟨0, C.toList, by omega, rfl, Only.refl _ _, by simp, ?_, HW.out.2.1⟩
          rw [HW.out.2.2.1, List.take_append_of_le_length (by simp [byteCells_length]), List.take_of_length_le (by simp [byteCells_length])]
          simp [applyL]
        case round =>
          obtain ⟨j, cl, hj, rfl, ho, hlen, htk, hblk⟩ := hrel
          by_cases hlt : j < pcs.length
          · obtain ⟨d0, d1, d2⟩ := (HW.out.2.2.2.2.only ho hgne).three j hlt
            obtain ⟨x, hx⟩ : ∃ x, x = pcs[j] := ⟨_, rfl⟩
            rw [← hx] at d0 d1 d2
            have hwi : withinB x n0 bA.size = true := by rw [HB.out.2.2, hx]; exact List.all_eq_true.1 HB.out.1 _ (List.getElem_mem hlt)
            have hwi2 : 0 ≤ x.f ∧ 0 ≤ x.s ∧ 0 ≤ x.t ∧ x.s ≤ n0 ∧ x.f ≤ n0 - x.s ∧ x.s ≤ bA.size ∧ x.t ≤ bA.size - x.s := by simpa [withinB] using hwi
            obtain ⟨x0, x1, x2, x3, x4, x5, x6⟩ := hwi2
            have hgr : g < wr.heap.size := Nat.lt_of_lt_of_le hgW ho.size
            have HR := Lib.hid (And.intro ho (And.intro hlen (And.intro htk (And.intro hblk hx))))
            clear ho hlen htk hblk hx hwi
            go_wp2_with ((with_reducible refine at_store_law ?_); refine wpList_store_row rfl _ _ _ rfl _ _ rfl rfl _ _ (by (repeat (first | assumption | exact heap_alloc_new _ _ | refine block_old ?_ | refine block_drew ?_ | apply setRow_heap | (refine (setRow_other _ _ _ _ ?_).trans ?_; omega)))) (by kernel_rfl) (by rfl) (by simp [Value.oneCell']) ?_; (try simp only [World.setRow_alloc_new]))
            obtain ⟨R, hR⟩ : ∃ R, R = (⟨(readL (ps[k]'hk1.lt) oa n0).toArray⟩ : ByteArray) := ⟨_, rfl⟩
            rw [← hR]
            have hRs : R.size = n0.toNat := by rw [hR]; exact HLEN.out
            have r1 : (R.size : Int) ≤ n0 := by omega
            have r2 : n0 ≤ (R.size : Int) := by omega
            have r3 : x.f ≤ (R.size : Int) := by omega
            have y0 : x.t ≤ x.t + x.s := by omega
            have y1 : x.t + x.s ≤ (K : Int) := by omega
            have HRR := Lib.hid (And.intro hR hRs)
            clear hR hRs
            refine name_world fun V hV => ?_
            refine wp_region_still_tail 13 (by kernel_rfl) (by kernel_rfl) ?_
            simp only [List.take_succ_cons, List.take_zero, List.drop_succ_cons, List.drop_zero]
            generalize hU : World.mk V.heap V.tape (V.drawn + 1) V.os V.output = U
            have hUV : U = V.drew := hU.symm
            have vn : V.heap[wr.heap.size]? = some (.cells #[.int .i64 x.f, .int .i64 x.s, .int .i64 x.t] 73 (0, 0)) := by rw [← hV]; exact heap_alloc_new _ _
            have un : U.heap[wr.heap.size]? = some (.cells #[.int .i64 x.f, .int .i64 x.s, .int .i64 x.t] 73 (0, 0)) := by rw [hUV]; exact vn
            have u0 := cell_in un 0 rfl
            have u1 := cell_in un 1 rfl
            have u2 := cell_in un 2 rfl
            have uB : Below wr.heap.size wr U := by rw [hUV, ← hV]; exact ((Below.refl _ _).alloc (Nat.le_refl _) _).drew
            have HU := Lib.hid uB
            clear hU hUV vn un uB hV
            have yw : IntKind.i64.wrap (x.t + x.s) = x.t + x.s := IntWalk.i64_in _ (by omega)
            have HY := Lib.hid yw
            clear yw
            obtain ⟨ho, hlen, htk, hblk, hx⟩ := HR.out
            have ublk := (HU.out.block _ (lt_of_block hblk)).trans hblk
            have oU : Only (· = w3.heap.size) W U := ho.trans (Only.of_below HU.out)
            have hRl : (readL (ps[k]'hk1.lt) oa n0).length = n0.toNat := HLEN.out
            have hpl : (applyL (readL (ps[k]'hk1.lt) oa n0) (pcs.take j) bs).length = bs.length := applyL_length hRl _ _ (all_take HB.out.1 _)
            have hvl : ((R.extract x.f.toNat R.size).data.toList.take x.s.toNat) = ((readL (ps[k]'hk1.lt) oa n0).drop x.f.toNat).take x.s.toNat := by
              rw [HRR.out.1]; exact extract_take _ _ _ (by rw [hRl]; omega)
            have hvn : ((R.extract x.f.toNat R.size).data.toList.take x.s.toNat).length = x.s.toNat := by
              rw [hvl, List.length_take, List.length_drop, hRl]; omega
            have hsz := HB.out.2.2
            have hmin : x.s.toNat = Nat.min (R.extract x.f.toNat R.size).size ((x.t + x.s).toNat - x.t.toNat) := by
              have : (R.extract x.f.toNat R.size).size = R.size - x.f.toNat := by simp [ByteArray.size_extract]
              rw [this]
              show _ = min _ _
              omega
            have hcp := fun (dLen dCap : Nat) (hm : x.s.toNat = Nat.min (R.extract x.f.toNat R.size).size dLen) => run_copy_blk (P := Tryz.prog) U 76 9 3 5 w3.heap.size x.t.toNat dLen dCap x.s.toNat C.size (R.extract x.f.toNat R.size) cl 5 Tryz.underlying76 (by kernel_rfl) ublk hm (by omega) (by omega)
            have hend : ∃ (j' : Nat) (l' : List Value), j' ≤ pcs.length ∧ (.int .i64 ((j : Int) + 1) : Value) = .int .i64 j' ∧ Only (· = w3.heap.size) W (U.setCells w3.heap.size x.t.toNat (byteCells ((R.extract x.f.toNat R.size).data.toList.take x.s.toNat))) ∧ l'.length = C.size ∧
                l'.take bs.length = byteCells (applyL (readL (ps[k]'hk1.lt) oa n0) (pcs.take j') bs) ∧ (U.setCells w3.heap.size x.t.toNat (byteCells ((R.extract x.f.toNat R.size).data.toList.take x.s.toNat))).heap[w3.heap.size]? = some (.cells l'.toArray 5 (C.size, C.size + 1)) := by
              refine ⟨j + 1, _, by omega, by go_num, Only.setCells (S := (· = w3.heap.size)) w3.heap.size (.inl rfl) _ _ _ oU, ?_, ?_, block_setCells _ _ _ _ _ _ _ (by rw [byteCells_length, hvn]; omega) ublk⟩
              · rw [byteCells_length, hvn]
                simp only [List.length_append, List.length_take, List.length_drop, byteCells_length, hvn]
                omega
              · rw [byteCells_length, piece_put htk hpl (by rw [hvn]; omega) (by omega), applyL_take _ _ _ _ hlt, ← hx, hvl]
                rfl
            obtain ⟨Z, hZ⟩ : ∃ Z, Z = U.setCells w3.heap.size x.t.toNat (byteCells ((R.extract x.f.toNat R.size).data.toList.take x.s.toNat)) := ⟨_, rfl⟩
            have hZ0 : x.s.toNat = 0 → Z = U := fun h => by rw [hZ, h]; rfl
            have hcp0 : x.s.toNat = 0 → ∀ dLen dCap : Nat, 0 = Nat.min (R.extract x.f.toNat R.size).size dLen → (Builtin.copy_ #[76, 9] 3 #[.slice (some ⟨w3.heap.size, 0, none⟩) dLen dCap, .string (R.extract x.f.toNat R.size)]).run Tryz.prog U = .ok (goInt 0) Z := fun h dLen dCap hm => by
              rw [hZ0 h]
              exact run_copy_blk (P := Tryz.prog) U 76 9 3 5 w3.heap.size 0 dLen dCap 0 C.size (R.extract x.f.toNat R.size) cl 5 Tryz.underlying76 (by kernel_rfl) ublk hm (by omega) (by omega)
            rw [← hZ] at hend
            simp only [← hZ] at hcp
            clear hZ hZ0
            have HE := Lib.hid hend
            clear ho hlen htk hblk hx ublk oU hRl hpl hvl hvn hsz hend
            have HCP := Lib.hid hcp
            have HCQ := Lib.hid hcp0
            clear hcp hcp0
            by_cases hKt : K = x.t.toNat
            · have hs0 : x.s.toNat = 0 := by omega
              have HS0 := Lib.hid hs0
              have hKs := hKt.symm
              clear hs0 hKt hmin
              have yw := HY.out
              repeat still_step
              refine wpStill_nil ?_
              go_wp2
              rw [HCQ.out HS0.out 0 0 (Nat.min_zero _).symm]
              clear yw hKs
              go_wp2
              have hR := HRR.out.1
              subst hR
              go_roundw
              case rel => first | exact HE.out | ((repeat apply Exists.intro); exact ⟨HE.out, rfl⟩)
              case measure => simp [pI]; omega
            · have yw := HY.out
              repeat still_step
              refine wpStill_nil ?_
              go_wp2
              rw [HCP.out _ _ hmin]
              clear yw
              go_wp2
              have hR := HRR.out.1
              subst hR
              go_roundw
              case rel => first | exact HE.out | ((repeat apply Exists.intro); exact ⟨HE.out, rfl⟩)
              case measure => simp [pI]; omega
          · obtain rfl : j = pcs.length := by omega
            obtain ⟨mB, m8, m10, mp, msp⟩ := HM.out
            have hbW := HW.out.2.2.2.1
            have HG4 := Lib.hid (show wr.cell? ⟨gx, 26, none⟩ = some (.int .i64 512) ∧ gx < wr.heap.size from by
              have h1 := HG3.out.2
              have h2 : gx < W.heap.size := Nat.lt_of_lt_of_le h1 hbW.size
              exact ⟨(ho.cell h2 (by omega)).trans ((hbW.cell (p := ⟨gx, 26, none⟩) h1).trans HG3.out.1), Nat.lt_of_lt_of_le h2 ho.size⟩)
            have oB : Only (· = w3.heap.size) w3 wr := (Only.of_below hbW).trans (ho.mono (fun _ _ h => h))
            have rp := oB.kept mp (by have := lt_of_block mp; omega)
            have rsp := msp.kept oB (by intro b hb e; have := msp.lt b hb; omega)
            have r8 := oB.kept m8 (by have := lt_of_block m8; omega)
            have r10 := oB.kept m10 (by have := lt_of_block m10; omega)
            have rB : Below w.heap.size w wr := mB.trans (oB.below (by omega) (by intro k hk; omega) |>.mono (by omega))
            rw [List.take_length] at htk
            have HR := Lib.hid (And.intro rB (And.intro rp (And.intro rsp (And.intro r8 (And.intro r10 (And.intro htk (And.intro hlen hblk)))))))
            have e4 := cell_in r10 4 rfl
            clear mB m8 m10 mp msp hbW oB rp rsp r8 r10 rB ho hlen htk hblk
            go_wp2_with fail
            go_at_call 9
            refine (pspace p s bb l thv _ HR.out.2.1).mono ?_
            rintro e w4 ⟨rfl, rfl⟩
            go_wp2_with fail
            go_at_call 34
            refine (copy_row s gp capp ps _ HS.out.1 HR.out.2.2.1 (by omega)).mono ?_
            rintro e w5 ⟨hb5, s2, pv2, ns, rfl, hsp2, hmv, hft⟩
            obtain ⟨g22, cap22, rfl, _⟩ := hsp2.parts (by intro e; have := hmv.1; rw [e] at this; simp at this; omega)
            obtain ⟨rB, rp, rsp, r8, r10, htk, hlen, hblk⟩ := HR.out
            have qp := (hb5.block _ (lt_of_block rp)).trans rp
            have qsp := rsp.below hb5
            have q8 := (hb5.block _ (lt_of_block r8)).trans r8
            have q10 := (hb5.block _ (lt_of_block r10)).trans r10
            have qblk := (hb5.block _ (lt_of_block hblk)).trans hblk
            have HG5 := Lib.hid (And.intro ((hb5.cell (p := ⟨gx, 26, none⟩) HG4.out.2).trans HG4.out.1) (Nat.lt_of_lt_of_le HG4.out.2 hb5.size))
            have qB := rB.trans (hb5.mono rB.size)
            have HQ := Lib.hid (And.intro qB (And.intro qp (And.intro qsp (And.intro q8 (And.intro q10 (And.intro htk (And.intro hlen qblk)))))))
            have HZ := Lib.hid (And.intro hb5 (And.intro hsp2 (And.intro hmv hft)))
            have HQB := Lib.hid (show w.heap.size ≤ wr.heap.size from rB.size)
            clear rB rp rsp r8 r10 htk hlen hblk qp qsp q8 q10 qblk qB HR hb5 hsp2 hmv hft
            go_upto_region 21 with fail
            have hXl : (applyL (readL (ps[k]'hk1.lt) oa n0) pcs bs).length = bs.length := applyL_length HLEN.out _ _ HB.out.1
            have HX := Lib.hid hXl
            clear hXl
            obtain ⟨X, hX⟩ : ∃ X, X = applyL (readL (ps[k]'hk1.lt) oa n0) pcs bs := ⟨_, rfl⟩
            have HXX := Lib.hid hX
            rw [← hX] at HQ HX
            clear hX
            refine wp_region_facts [.val (.pointer (some ⟨p, 0, none⟩)), .val (.pointer (some ⟨s, 0, none⟩)), .val (.int .i64 to_), .val (.slice (some ⟨w3.heap.size, 0, none⟩) bA.size K), .val (.string ⟨X.toArray⟩)] (by kernel_rfl) (by kernel_rfl) ?_ ?_
            · simp only [stepsAll, List.take, List.length]
              refine ⟨?_, ?_, ?_, ?_, ?_, ?_⟩
              all_goals first | trivial | (intro a wx hb hf hd)
              all_goals have hf0 : a.tmps[(0 : Nat)]?.getD undef = .pointer (some ⟨p, 0, none⟩) := (hf 0 (by decide +kernel)).trans rfl
              all_goals have hf3 : a.tmps[(3 : Nat)]?.getD undef = .int .i64 to_ := (hf 3 (by decide +kernel)).trans rfl
              all_goals have hf20 : a.tmps[(20 : Nat)]?.getD undef = .slice (some ⟨w3.heap.size, 0, none⟩) bA.size K := (hf 20 (by decide +kernel)).trans rfl
              · exact grow_tmp _ rfl ⟨hf0, fun h => by cases h⟩
              · have h114 : a.tmps[(114 : Nat)]?.getD undef = .pointer (some ⟨p, 0, none⟩) := hd 0 (by simp) (by kernel_rfl)
                refine grow_call (f := 9) (args := #[.pointer (some ⟨p, 0, none⟩)]) (by simp [execOp, h114, go_sem]) ?_
                refine (pspace p s bb l thv _ ((hb.block _ (lt_of_block HQ.out.2.1)).trans HQ.out.2.1)).mono ?_
                rintro e w3 ⟨rfl, rfl⟩
                exact ⟨_, rfl, Below.refl _ _, rfl, fun h => by cases h⟩
              · exact grow_tmp _ rfl ⟨hf3, fun h => by cases h⟩
              · exact grow_tmp _ rfl ⟨hf20, fun h => by cases h⟩
              · have h117 : a.tmps[(117 : Nat)]?.getD undef = .slice (some ⟨w3.heap.size, 0, none⟩) bA.size K := hd 3 (by simp) (by kernel_rfl)
                have qblk := HQ.out.2.2.2.2.2.2.2
                have hbk := (hb.block _ (lt_of_block qblk)).trans qblk
                have hlA : X.length = bA.size := by rw [HX.out, HB.out.2.2]
                have hrun := run_convert_bytes_back (P := Tryz.prog) wx 76 9 5 ⟨w3.heap.size, 0, none⟩ K X Tryz.underlying76 Tryz.underlying5 Tryz.underlying9 (fun j hj => by
                  rw [addr0]
                  have h1 : (byteCells X)[j]? = some (.int .u8 (X[j].toNat : Int)) := by simp [byteCells, List.getElem?_eq_getElem hj]
                  rw [← HQ.out.2.2.2.2.2.1, List.getElem?_take_of_lt (by have := HX.out; omega)] at h1
                  exact cell_l hbk j h1)
                rw [hlA] at hrun
                exact grow_value (v := .string ⟨X.toArray⟩) (by simp [execOp, Act.eval, h117, hrun]) (Below.refl _ _) ⟨rfl, fun h => by cases h⟩
            · intro fw w6 hb6 hs hn hne
              have g114 : fw 114 = .pointer (some ⟨p, 0, none⟩) := hs 0 (by simp)
              have g115 : fw 115 = .pointer (some ⟨s, 0, none⟩) := hs 1 (by simp)
              have g116 : fw 116 = .int .i64 to_ := hs 2 (by simp)
              have g117 : fw 117 = .slice (some ⟨w3.heap.size, 0, none⟩) bA.size K := hs 3 (by simp)
              have g118 : fw 118 = .string ⟨X.toArray⟩ := hs 4 (by simp)
              rw [show (List.range (List.length _)).map (dstOf _) = [114, 115, 116, 117, 118] from by kernel_rfl]
              simp only [actOf, List.foldl, Act.put, List.drop, List.length, g114, g115, g116, g117, g118, List.setIfInBounds_toArray, List.set_cons_zero, List.set_cons_succ]
              clear hs hn hne g114 g115 g116 g117 g118
              obtain ⟨qB, qp, qsp, q8, q10, _, _, qblk⟩ := HQ.out
              have HG6 := Lib.hid (And.intro ((hb6.cell (p := ⟨gx, 26, none⟩) HG5.out.2).trans HG5.out.1) (Nat.lt_of_lt_of_le HG5.out.2 hb6.size))
              have t8 := (hb6.block _ (lt_of_block q8)).trans q8
              have tp := (hb6.block _ (lt_of_block qp)).trans qp
              have ts2 := HZ.out.2.1.below hb6
              have l56 := HZ.out.1.size
              have lq := qB.size
              have HT2 := Lib.hid (And.intro t8 (And.intro tp ts2))
              clear t8 tp ts2
              have tB := qB.trans (hb6.mono qB.size)
              have tsp := qsp.below hb6
              have t10 := (hb6.block _ (lt_of_block q10)).trans q10
              have HT := Lib.hid (And.intro tB (And.intro tsp t10))
              clear qB qp qsp q8 q10 qblk tB tsp t10 hb6 HQ
              go_wp2_with fail
              go_at_call 35
              refine (write_at s _ ps to_ X _ HS.out.1 HT.out.2.1 k hk2 (by rw [HX.out]; exact HS.out.2.2.2)).mono ?_
              rintro e w7 ⟨rfl, ho7, hsp7⟩
              have hbkF : spaceFoot s (.slice (some ⟨gp, 0, none⟩) ps.length capp) ps (ps[k]'hk1.lt).blk := .inr (.inr ⟨_, List.getElem_mem hk1.lt, rfl⟩)
              have hbk : (ps[k]'hk1.lt).blk < w.heap.size := HS.out.2.1.lt _ hbkF
              have v10 := ho7.kept HT.out.2.2 (by omega)
              have v8 := ho7.kept HT2.out.1 (by omega)
              have vp := ho7.kept HT2.out.2.1 (by
                intro e
                exact HT.out.2.1.not_cells HT2.out.2.1 (by decide) (by decide) (by decide) (.inr (.inr ⟨_, List.getElem_mem hk1.lt, e.symm⟩)))
              have e7 := cell_in v10 4 rfl
              have e8 := cell_in v8 0 rfl
              have egx : w7.cell? ⟨gx, 26, none⟩ = some (.int .i64 512) := (ho7.cell HG6.out.2 (by have := HGX.out.2; omega)).trans HG6.out.1
              have vs2 := HT2.out.2.2.kept ho7 (by
                rintro b hb rfl
                have := HZ.out.2.2.2 _ hb
                have := HQB.out
                omega)
              have oS : Only (spaceFoot s (.slice (some ⟨gp, 0, none⟩) ps.length capp) ps) w w7 := (Only.of_below HT.out.1).then ho7 (by rintro b hb rfl; exact hbkF)
              have HV := Lib.hid (And.intro oS (And.intro hsp7 (And.intro vp vs2)))
              have hX7 : ps.set k ((ps[k]'hk1.lt).put to_ X) = ps.set k ((ps[k]'hk1.lt).put to_ (applyL (readL (ps[k]'hk1.lt) oa n0) pcs bs)) := by rw [HXX.out]
              have HX7 := Lib.hid hX7
              clear v10 v8 vp ho7 hsp7 e4 vs2 oS hbkF hX7
              have hsum : IntKind.i64.wrap (512 + code) = 512 + code := IntWalk.i64_in _ (by omega)
              go_wp2_with fail
              refine wp_region_still_tail 16 (by kernel_rfl) (by kernel_rfl) ?_
              simp only [List.take_succ_cons, List.take_zero, List.drop_succ_cons, List.drop_zero]
              generalize hU : World.mk w7.heap w7.tape (w7.drawn + 1) w7.os w7.output = U
              have hUV : U = w7.drew := hU.symm
              have uB : Below w7.heap.size w7 U := by rw [hUV]; exact (Below.refl _ _).drew
              have u7 : U.cell? ⟨w.heap.size + 1, 4, none⟩ = some (.int .i64 code) := by rw [hUV]; exact e7
              have u8 : U.cell? ⟨w.heap.size, 0, none⟩ = some (.int .i64 oa) := by rw [hUV]; exact e8
              have ux : U.cell? ⟨gx, 26, none⟩ = some (.int .i64 512) := by rw [hUV]; exact egx
              have HU := Lib.hid uB
              clear hU hUV uB e7 e8 egx
              repeat still_step
              refine wpStill_nil ?_
              clear hsum u7 u8 ux
              go_wp2_with fail
              go_at_call 36
              obtain ⟨oS, hsp7, vp, vs2⟩ := HV.out
              rw [HX7.out] at hsp7
              have vF : Forms U := HFF.out.1.only (oS.trans (Only.of_below HU.out)) HFF.out.2.1
              refine (HRUN.out U bb thv ((HU.out.block _ (lt_of_block vp)).trans vp) (hsp7.below HU.out) vF).mono ?_
              rintro e w8 ⟨rfl, ho8, g', cap', hsp8, hg8⟩
              have hlU := HU.out.size
              have hlS := oS.size
              have o8 : Only (spaceFoot s (.slice (some ⟨gp, 0, none⟩) ps.length capp) ps) w w8 := (oS.trans (Only.of_below HU.out)).then ho8 (fun _ _ h => h)
              have np : ¬ spaceFoot s (.slice (some ⟨gp, 0, none⟩) ps.length capp) ps p := HS.out.2.1.not_cells HP.out.2 (by decide) (by decide) (by decide)
              have vp8 := o8.kept HP.out.2 np
              have s28 := (vs2.below HU.out).kept ho8 (by
                intro b hb h
                have h1 := HS.out.2.1.lt b h
                have h2 := HZ.out.2.2.2 b hb
                have := HQB.out
                omega)
              have H8 := Lib.hid (And.intro o8 (And.intro vp8 (And.intro s28 (And.intro hsp8 hg8))))
              clear oS hsp7 vp vs2 vF ho8 hsp8 hg8 o8 np vp8 s28
              cases rb with
              | true =>
                go_wp2
                go_ret
                exact ⟨rfl, H8.out.1, g', ⟨cap', by simpa using H8.out.2.2.2.1⟩, by rcases H8.out.2.2.2.2 with h | h; exact .inl h; exact .inr (by omega)⟩
              | false =>
                go_wp2_with fail
                go_at_call 9
                refine (pspace p s bb l thv _ H8.out.2.1).mono ?_
                rintro e w9 ⟨rfl, rfl⟩
                go_wp2_with fail
                go_at_call 37
                have hql := HFF.out.2.2.len
                have hmv := HZ.out.2.2.1
                have hAQ : AreasOk Q2 := areas_like HS.out.1 hql (fun i h h' => by obtain ⟨d, hd⟩ := HFF.out.2.2.each i h h'; rw [hd]; exact ⟨rfl, rfl⟩)
                have hAN : AreasOk ns := areas_like HS.out.1 hmv.1 (fun i h h' => by obtain ⟨b, c, hd⟩ := hmv.2 i h h'; rw [hd]; exact ⟨rfl, rfl⟩)
                have hbe : ∀ q ∈ Q2, ∃ q' ∈ ps, q'.blk = q.blk := by
                  intro q hq
                  obtain ⟨i, hi, rfl⟩ := List.getElem_of_mem hq
                  obtain ⟨d, hd⟩ := HFF.out.2.2.each i hi (by omega)
                  exact ⟨ps[i]'(by omega), List.getElem_mem _, by rw [hd]⟩
                have hTw : Twin ns Q2 := ⟨by rw [hmv.1, hql], fun i h h' => by
                  obtain ⟨b, c, e1⟩ := hmv.2 i h (by omega)
                  obtain ⟨d, e2⟩ := HFF.out.2.2.each i h' (by omega)
                  rw [e1, e2]; exact ⟨rfl, rfl, rfl, rfl, rfl⟩⟩
                have hres := crestore s s2 g' cap' g22 cap22 Q2 ns w8 hAQ hAN (by rw [hql]; exact H8.out.2.2.2.1) H8.out.2.2.1 hTw (by rw [hmv.1]; omega) (by
                  rintro b hb ⟨q, hq, rfl⟩
                  obtain ⟨q', hq', e⟩ := hbe q hq
                  have h1 := HS.out.2.1.lt _ (.inr (.inr ⟨q', hq', e⟩))
                  have h2 := HZ.out.2.2.2 _ hb
                  have := HQB.out
                  omega)
                have hzw : List.zipWith withData Q2 ns = ps := by
                  have hm1 := hmv.1
                  apply List.ext_getElem
                  · rw [List.length_zipWith, hql, hmv.1, Nat.min_self]
                  · intro i h h'
                    rw [List.getElem_zipWith]
                    obtain ⟨b, c, e1⟩ := hmv.2 i (by omega) h'
                    obtain ⟨d, e2⟩ := HFF.out.2.2.each i (by omega) h'
                    rw [e1, e2]; rfl
                rw [hzw, hql] at hres
                refine hres.mono ?_
                rintro e w10 ⟨rfl, ho10, hsp10⟩
                have o10 : Only (spaceFoot s (.slice (some ⟨gp, 0, none⟩) ps.length capp) ps) w w10 := H8.out.1.then ho10 (by
                  rintro b hb ⟨q, hq, e⟩
                  obtain ⟨q', hq', e'⟩ := hbe q hq
                  exact .inr (.inr ⟨q', hq', e'.trans e⟩))
                have H10 := Lib.hid (And.intro o10 hsp10)
                clear hql hmv hAQ hAN hbe hTw hres hzw ho10 hsp10 o10
                go_wp2
                go_ret
                exact ⟨rfl, H10.out.1, g', ⟨cap', by simpa using H10.out.2⟩, by rcases H8.out.2.2.2.2 with h | h; exact .inl h; exact .inr (by omega)⟩
end Go.Proofs.YtkbilipgidcgeaaGreatDoor
