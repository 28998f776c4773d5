/- convert: Run with code and without pieces. ConvertRuns: conversions with code on the example's process. -/
import Derived.IntWalk
import Derived.Deep.QuietTactic
import Derived.BigQuiet
import Derived.StillTailTactics
import Derived.Test.YtkbilipgidcgeaaGreatDoorW37
import Derived.Test.YtkbilipgidcgeaaGreatDoorW36
import Derived.Test.YtkbilipgidcgeaaGreatDoorW29
import Derived.Test.YtkbilipgidcgeaaGreatDoorW10
import Derived.Test.YtkbilipgidcgeaaGreatDoorW50
import Derived.Test.YtkbilipgidcgeaaGreatDoorW43
set_option linter.unusedVariables false
set_option linter.unusedSimpArgs false
namespace Go.Proofs.YtkbilipgidcgeaaGreatDoor
open Go.RowKit
attribute [local go_sem] ext_cell ext_frozen
attribute [local irreducible] labCells modC threadC

set_option maxRecDepth 100000 in
set_option maxHeartbeats 4000000 in
theorem crun_code_nil (B : ByteArray) (p s l gm cm gp capp : Nat) (oa n0 to_ code : Int) (o1 s1 f1 : ByteArray) (bs : List UInt8) (bA : ByteArray) (hbA : bA = ⟨bs.toArray⟩) (ps Q2 : List Part) (k : Nat) (rb : Bool) (w : World) (hP : ProcLite B w p s l gm cm)
    (h0 : 0 ≤ n0) (h1 : n0 ≤ 100000) (h2 : bs.length ≤ 100000)
    (hA : AreasOk ps) (hsp : SpaceAt w s (.slice (some ⟨gp, 0, none⟩) ps.length capp) ps) (hk1 : LastAt ps oa k) (hin1 : oa - (ps[k]'hk1.lt).at_ + n0 ≤ (ps[k]'hk1.lt).size) (hk2 : LastAt ps to_ k) (hin2 : to_ - (ps[k]'hk1.lt).at_ + bs.length ≤ (ps[k]'hk1.lt).size)
    (hcode : (code != -1) = true) (hcb : 0 ≤ code) (hcb2 : code ≤ 1000) (hf : Forms w) (hf0 : ¬ spaceFoot s (.slice (some ⟨gp, 0, none⟩) ps.length capp) ps 0) (hQ2 : SameBut Q2 ps)
    (hrun : ∀ (W : World) (bb : Nat) (thv : Value), W.heap[p]? = some (.cells (procC s bb l thv).toArray 81 (0, 0)) → SpaceAt W s (.slice (some ⟨gp, 0, none⟩) ps.length capp) (ps.set k ((ps[k]'hk1.lt).put to_ bs)) → Forms W →
      Calls Tryz.prog 36 #[.pointer (some ⟨p, 0, none⟩), .int .i64 (512 + code), .int .i64 oa, .int .i64 to_] W fun e w' => e = .returned (.bool rb) ∧ Only (spaceFoot s (.slice (some ⟨gp, 0, none⟩) ps.length capp) ps) W w' ∧
        ∃ g' cap', SpaceAt w' s (.slice (some ⟨g', 0, none⟩) ps.length cap') Q2 ∧ (g' = gp ∨ W.heap.size ≤ g')) :
    Calls Tryz.prog 12 #[.pointer (some ⟨p, 0, none⟩), .int .i64 0, .agg #[.int .i64 oa, .int .i64 n0], .int .i64 to_, .agg (convC o1 s1 f1 (.slice none 0 0) code), .string bA] w fun e w' => e = .returned (.int .i64 (if rb = true then 0 else 16)) ∧
      Only (spaceFoot s (.slice (some ⟨gp, 0, none⟩) ps.length capp) ps) w w' ∧ ∃ g' cap', SpaceAt w' s (.slice (some ⟨g', 0, none⟩) ps.length cap') (if rb = true then Q2 else ps) ∧ (g' = gp ∨ w.heap.size ≤ g') := by
  have HRUN := Lib.hid hrun
  have HFF := Lib.hid (And.intro hf (And.intro hf0 hQ2))
  clear hrun hf hf0 hQ2
  obtain ⟨bb, thv, hp⟩ := hP.head
  have hklt := hk1.lt
  have HLEN := Lib.hid (show (readL (ps[k]'hk1.lt) oa n0).length = n0.toNat from by
    obtain ⟨b1, b2, cur, b3, b4, b5⟩ := hsp.bytes.2 _ (List.getElem_mem hk1.lt)
    have := hk1.le
    simp [readL]; omega)
  have HP := Lib.hid (And.intro hP hp)
  have hsz : bA.size = bs.length := by subst hbA; simp [ByteArray.size]
  have h2' : bA.size ≤ 100000 := by omega
  have HB := Lib.hid (And.intro trivial (And.intro hbA hsz))
  have HS := Lib.hid (And.intro hA (And.intro hsp (And.intro hin1 hin2)))
  clear hP hp hsz hbA hA hsp hin1 hin2 h2
  unfold convC
  go_enter Tryz.func12, Tryz.ntmps12
  go_wp2_with (first
    | (go_at_call 32; refine (pmods B p s l gm cm _ (HP.out.1.below (by go_grown))).mono ?_
       rintro e w1 ⟨hb1, gx, cx, rfl, hown1⟩
       have hbase := (row_cell hown1 26 (modC_get26 B 512 1)).1
       have lgx := (ownsRow_lt hown1).2.1
       have k8 := (hb1.block w.heap.size (by simp; omega)).trans (block_old (heap_alloc_new w _))
       have k10 := (hb1.block (w.heap.size + 1) (by simp)).trans (heap_alloc2_new w _ _)
       have e1 := cell_in k8 1 rfl
       have m3 := cell_in k10 3 rfl
       have ls1 := size_call2 hb1
       have hB1 := below_call (((Below.refl _ _).alloc (Nat.le_refl _) _).alloc (by simp) _) hb1
       have lgx0 : w.heap.size ≤ gx := by have := (ownsRow_lt hown1).1; simp at this; omega
       have HGX := Lib.hid (And.intro hbase lgx0)
       have H1 := Lib.hid (And.intro hB1 (And.intro k8 k10)); clear hb1 hown1 k8 k10 hB1 lgx0))
  refine wp_loop_rounds 1 ?_
  rw [rounds_succ]
  go_upto_region 10 with fail
  obtain ⟨hB, k8, k10⟩ := H1.out
  clear m3 e1
  have HGr := Lib.hid (And.intro HGX.out.1 lgx)
  have kp := (hB.block _ (lt_of_block HP.out.2)).trans HP.out.2
  have ksp := HS.out.2.1.below hB
  refine wp_region_facts [.val (.pointer (some ⟨p, 0, none⟩)), .val (.pointer (some ⟨s, 0, none⟩)), .val (.pointer (some ⟨w.heap.size, 0, none⟩)), .val (.int .i64 oa), .val (.pointer (some ⟨w.heap.size, 1, none⟩)), .val (.int .i64 n0), .val (.tuple #[.string ⟨(readL (ps[k]'hk1.lt) oa n0).toArray⟩, .int .i64 0]), .val (.tuple #[.string ⟨(readL (ps[k]'hk1.lt) oa n0).toArray⟩, .int .i64 0]), .val (.string ⟨(readL (ps[k]'hk1.lt) oa n0).toArray⟩), .val (.int .i64 0), .val (.string ⟨(readL (ps[k]'hk1.lt) oa n0).toArray⟩), .val (.int .i64 0)] (by kernel_rfl) (by kernel_rfl) ?_ ?_
  · simp only [stepsAll, List.take, List.length]
    refine ⟨?_, ?_, ?_, ?_, ?_, ?_, ?_, ?_, ?_, ?_, ?_, ?_, ?_⟩
    all_goals first | trivial | (intro a wr hb hf hd)
    all_goals have hf0 : a.tmps[(0 : Nat)]?.getD undef = .pointer (some ⟨p, 0, none⟩) := (hf 0 (by decide +kernel)).trans rfl
    all_goals have hf8 : a.tmps[(8 : Nat)]?.getD undef = .pointer (some ⟨w.heap.size, 0, none⟩) := (hf 8 (by decide +kernel)).trans rfl
    · exact grow_tmp _ rfl ⟨hf0, fun h => by cases h⟩
    · have h63 : a.tmps[(63 : Nat)]?.getD undef = .pointer (some ⟨p, 0, none⟩) := hd 0 (by simp) (by kernel_rfl)
      refine grow_call (f := 9) (args := #[.pointer (some ⟨p, 0, none⟩)]) (by simp [execOp, h63, go_sem]) ?_
      refine (pspace p s bb l thv _ ((hb.block _ (lt_of_block kp)).trans kp)).mono ?_
      rintro e w3 ⟨rfl, rfl⟩
      exact ⟨_, rfl, Below.refl _ _, rfl, fun h => by cases h⟩
    · exact grow_value (v := .pointer (some ⟨w.heap.size, 0, none⟩)) (by simp [execOp, hf8, go_sem]) (Below.refl _ _) ⟨rfl, fun h => by cases h⟩
    · have h65 : a.tmps[(65 : Nat)]?.getD undef = .pointer (some ⟨w.heap.size, 0, none⟩) := hd 2 (by simp) (by kernel_rfl)
      have hc := cell_l ((hb.block _ (lt_of_block k8)).trans k8) 0 (rfl)
      exact grow_value (v := .int .i64 oa) (by simp [execOp, h65, hc, go_sem]) (Below.refl _ _) ⟨rfl, fun h => by cases h⟩
    · exact grow_value (v := .pointer (some ⟨w.heap.size, 1, none⟩)) (by simp [execOp, hf8, go_sem]) (Below.refl _ _) ⟨rfl, fun h => by cases h⟩
    · have h67 : a.tmps[(67 : Nat)]?.getD undef = .pointer (some ⟨w.heap.size, 1, none⟩) := hd 4 (by simp) (by kernel_rfl)
      have hc := cell_l ((hb.block _ (lt_of_block k8)).trans k8) 1 (rfl)
      exact grow_value (v := .int .i64 n0) (by simp [execOp, h67, hc, go_sem]) (Below.refl _ _) ⟨rfl, fun h => by cases h⟩
    · have h64 : a.tmps[(64 : Nat)]?.getD undef = .pointer (some ⟨s, 0, none⟩) := hd 1 (by simp) (by kernel_rfl)
      have h66 : a.tmps[(66 : Nat)]?.getD undef = .int .i64 oa := hd 3 (by simp) (by kernel_rfl)
      have h68 : a.tmps[(68 : Nat)]?.getD undef = .int .i64 n0 := hd 5 (by simp) (by kernel_rfl)
      refine grow_call (f := 11) (args := #[.pointer (some ⟨s, 0, none⟩), .int .i64 oa, .int .i64 n0]) (by simp [execOp, h64, h66, h68, go_sem]) ?_
      refine (read_at s _ ps oa n0 _ HS.out.1 (ksp.below hb) k hk1 HS.out.2.2.1 h0).mono ?_
      rintro e w3 ⟨hb3, rfl⟩
      exact ⟨_, rfl, hb3, rfl, fun h => by cases h⟩
    · have h69 : a.tmps[(69 : Nat)]?.getD undef = .tuple #[.string ⟨(readL (ps[k]'hk1.lt) oa n0).toArray⟩, .int .i64 0] := hd 6 (by simp) (by kernel_rfl)
      exact grow_tmp _ rfl ⟨h69, fun h => by cases h⟩
    · have h62 : a.tmps[(62 : Nat)]?.getD undef = .tuple #[.string ⟨(readL (ps[k]'hk1.lt) oa n0).toArray⟩, .int .i64 0] := hd 7 (by simp) (by kernel_rfl)
      exact grow_value (v := .string ⟨(readL (ps[k]'hk1.lt) oa n0).toArray⟩) (by simp [execOp, h62, go_sem]) (Below.refl _ _) ⟨rfl, fun h => by cases h⟩
    · have h62 : a.tmps[(62 : Nat)]?.getD undef = .tuple #[.string ⟨(readL (ps[k]'hk1.lt) oa n0).toArray⟩, .int .i64 0] := hd 7 (by simp) (by kernel_rfl)
      exact grow_value (v := .int .i64 0) (by simp [execOp, h62, go_sem]) (Below.refl _ _) ⟨rfl, fun h => by cases h⟩
    · have h70 : a.tmps[(70 : Nat)]?.getD undef = .string ⟨(readL (ps[k]'hk1.lt) oa n0).toArray⟩ := hd 8 (by simp) (by kernel_rfl)
      exact grow_value (v := .string ⟨(readL (ps[k]'hk1.lt) oa n0).toArray⟩) (by simp [execOp, h70, go_sem]) (Below.refl _ _) ⟨rfl, fun h => by cases h⟩
    · have h71 : a.tmps[(71 : Nat)]?.getD undef = .int .i64 0 := hd 9 (by simp) (by kernel_rfl)
      exact grow_value (v := .int .i64 0) (by simp [execOp, h71, go_sem]) (Below.refl _ _) ⟨rfl, fun h => by cases h⟩
  · intro fv w2 hb2 hs hn hne
    have g63 : fv 63 = .pointer (some ⟨p, 0, none⟩) := hs 0 (by simp)
    have g64 : fv 64 = .pointer (some ⟨s, 0, none⟩) := hs 1 (by simp)
    have g65 : fv 65 = .pointer (some ⟨w.heap.size, 0, none⟩) := hs 2 (by simp)
    have g66 : fv 66 = .int .i64 oa := hs 3 (by simp)
    have g67 : fv 67 = .pointer (some ⟨w.heap.size, 1, none⟩) := hs 4 (by simp)
    have g68 : fv 68 = .int .i64 n0 := hs 5 (by simp)
    have g69 : fv 69 = .tuple #[.string ⟨(readL (ps[k]'hk1.lt) oa n0).toArray⟩, .int .i64 0] := hs 6 (by simp)
    have g62 : fv 62 = .tuple #[.string ⟨(readL (ps[k]'hk1.lt) oa n0).toArray⟩, .int .i64 0] := hs 7 (by simp)
    have g70 : fv 70 = .string ⟨(readL (ps[k]'hk1.lt) oa n0).toArray⟩ := hs 8 (by simp)
    have g71 : fv 71 = .int .i64 0 := hs 9 (by simp)
    have g16 : fv 16 = .string ⟨(readL (ps[k]'hk1.lt) oa n0).toArray⟩ := hs 10 (by simp)
    have g17 : fv 17 = .int .i64 0 := hs 11 (by simp)
    rw [show (List.range (List.length _)).map (dstOf _) = [63, 64, 65, 66, 67, 68, 69, 62, 70, 71, 16, 17] from by kernel_rfl]
    simp only [actOf, List.foldl, Act.put, List.drop, List.length, g63, g64, g65, g66, g67, g68, g69, g62, g70, g71, g16, g17, List.setIfInBounds_toArray, List.set_cons_zero, List.set_cons_succ]
    clear hs hn hne g63 g64 g65 g66 g67 g68 g69 g62 g70 g71 g16 g17
    have jB := hB.trans (hb2.mono hB.size)
    have j8 := (hb2.block _ (lt_of_block k8)).trans k8
    have j10 := (hb2.block _ (lt_of_block k10)).trans k10
    have jp := (hb2.block _ (lt_of_block kp)).trans kp
    have jsp := ksp.below hb2
    have HG2 := Lib.hid (And.intro ((hb2.cell (p := ⟨gx, 26, none⟩) HGr.out.2).trans HGr.out.1) (Nat.lt_of_lt_of_le HGr.out.2 hb2.size))
    have HJ := Lib.hid (And.intro jB (And.intro j8 (And.intro j10 (And.intro jp jsp))))
    clear hB hb2 k8 k10 kp ksp jB j8 j10 jp jsp
    go_wp2_with fail
    go_at_call 9
    refine (pspace p s bb l thv _ HJ.out.2.2.2.1).mono ?_
    rintro e w3 ⟨rfl, rfl⟩
    go_wp2_with fail
    go_at_call 11
    refine (read_at s _ ps to_ bA.size _ HS.out.1 HJ.out.2.2.2.2 k hk2 (by rw [HB.out.2.2]; exact HS.out.2.2.2) (by omega)).mono ?_
    rintro e w3 ⟨hb3, rfl⟩
    have hcv := fun (w : World) (s : ByteArray) => run_bytes_of_string (P := Tryz.prog) w 9 76 5 s Tryz.underlying9 Tryz.underlying76 Tryz.underlying5
    obtain ⟨jB, j8, j10, jp, jsp⟩ := HJ.out
    have m8 := (hb3.block _ (lt_of_block j8)).trans j8
    have m10 := (hb3.block _ (lt_of_block j10)).trans j10
    have mp := (hb3.block _ (lt_of_block jp)).trans jp
    have msp := jsp.below hb3
    have HG3 := Lib.hid (And.intro ((hb3.cell (p := ⟨gx, 26, none⟩) HG2.out.2).trans HG2.out.1) (Nat.lt_of_lt_of_le HG2.out.2 hb3.size))
    have mB := jB.trans (hb3.mono jB.size)
    have e3 := cell_in m10 3 rfl
    have HM := Lib.hid (And.intro mB (And.intro m8 (And.intro m10 (And.intro mp msp))))
    have l3 := mB.size
    have l8 := lt_of_block m8
    have l10 := lt_of_block m10
    clear jB j8 j10 jp jsp m8 m10 mp msp mB HJ hb3
    go_wp2_with fail
    obtain ⟨K, hK⟩ : ∃ K, K = grownCap w3 bA.size 0 5 := ⟨_, rfl⟩
    have hK2 : bA.size ≤ K := by rw [hK]; exact grownCap_ge _ _ _ _
    rw [← hK]
    obtain ⟨C, hC⟩ : ∃ C, C = bytesRow bA K := ⟨_, rfl⟩
    rw [← hC]
    have hCl : C.toList = byteCells bs ++ List.replicate (K - bs.length) (.int .u8 0) := by
      rw [hC, HB.out.2.1]; simp [bytesRow, byteCells, ByteArray.size]
    have hCs : bs.length ≤ C.size := by rw [← Array.length_toList, hCl]; simp [byteCells_length]
    refine name_world fun W hW => ?_
    have hbW : Below w3.heap.size w3 W := by rw [← hW]; go_grown
    have hB0 : W.heap[w3.heap.size]? = some (.cells C.toList.toArray 5 (C.size, C.size + 1)) := by rw [← hW]; exact heap_alloc_new w3 _
    have HW := Lib.hid (And.intro hB0 (And.intro hCl hbW))
    clear hB0 hCl hbW hC hK hW
    refine wp_loop_rounds 1 ?_
    rw [rounds_succ]
    obtain ⟨mB, m8, m10, mp, msp⟩ := HM.out
    have hbW := HW.out.2.2
    have rp := (hbW.block _ (lt_of_block mp)).trans mp
    have rsp := msp.below hbW
    have r8 := (hbW.block _ (lt_of_block m8)).trans m8
    have r10 := (hbW.block _ (lt_of_block m10)).trans m10
    have rB : Below w.heap.size w W := mB.trans (hbW.mono l3)
    have HG4 := Lib.hid (And.intro ((hbW.cell (p := ⟨gx, 26, none⟩) HG3.out.2).trans HG3.out.1) (Nat.lt_of_lt_of_le HG3.out.2 hbW.size))
    have HQB := Lib.hid (show w.heap.size ≤ W.heap.size from rB.size)
    have htk : C.toList.take bs.length = byteCells bs := by
      rw [HW.out.2.1, List.take_append_of_le_length (by simp [byteCells_length]), List.take_of_length_le (by simp [byteCells_length])]
    have hlen : C.toList.length = C.size := by simp
    have hblk := HW.out.1
    have HR := Lib.hid (And.intro rB (And.intro rp (And.intro rsp (And.intro r8 (And.intro r10 (And.intro htk (And.intro hlen hblk)))))))
    have e4 := cell_in r10 4 rfl
    clear mB m8 m10 mp msp hbW rp rsp r8 r10 rB hlen htk hblk
    go_wp2_with fail
    go_at_call 9
    refine (pspace p s bb l thv _ HR.out.2.1).mono ?_
    rintro e w4 ⟨rfl, rfl⟩
    go_wp2_with fail
    go_at_call 34
    refine (copy_row s gp capp ps _ HS.out.1 HR.out.2.2.1 (by omega)).mono ?_
    rintro e w5 ⟨hb5, s2, pv2, ns, rfl, hsp2, hmv, hft⟩
    obtain ⟨g22, cap22, rfl, _⟩ := hsp2.parts (by intro e; have := hmv.1; rw [e] at this; simp at this; omega)
    have HG5 := Lib.hid (And.intro ((hb5.cell (p := ⟨gx, 26, none⟩) HG4.out.2).trans HG4.out.1) (Nat.lt_of_lt_of_le HG4.out.2 hb5.size))
    obtain ⟨rB, rp, rsp, r8, r10, htk, hlen, hblk⟩ := HR.out
    have qp := (hb5.block _ (lt_of_block rp)).trans rp
    have qsp := rsp.below hb5
    have q8 := (hb5.block _ (lt_of_block r8)).trans r8
    have q10 := (hb5.block _ (lt_of_block r10)).trans r10
    have qblk := (hb5.block _ (lt_of_block hblk)).trans hblk
    have qB := rB.trans (hb5.mono rB.size)
    have HQ := Lib.hid (And.intro qB (And.intro qp (And.intro qsp (And.intro q8 (And.intro q10 (And.intro htk (And.intro hlen qblk)))))))
    have HZ := Lib.hid (And.intro hb5 (And.intro hsp2 (And.intro hmv hft)))
    clear rB rp rsp r8 r10 htk hlen hblk qp qsp q8 q10 qblk qB HR hb5 hsp2 hmv hft
    go_upto_region 21 with fail
    obtain ⟨X, hX⟩ : ∃ X, X = bs := ⟨_, rfl⟩
    have HXX := Lib.hid hX
    rw [← hX] at HQ
    have HX := Lib.hid (show X.length = bs.length by rw [hX])
    clear hX
    refine wp_region_facts [.val (.pointer (some ⟨p, 0, none⟩)), .val (.pointer (some ⟨s, 0, none⟩)), .val (.int .i64 to_), .val (.slice (some ⟨w3.heap.size, 0, none⟩) bA.size K), .val (.string ⟨X.toArray⟩)] (by kernel_rfl) (by kernel_rfl) ?_ ?_
    · simp only [stepsAll, List.take, List.length]
      refine ⟨?_, ?_, ?_, ?_, ?_, ?_⟩
      all_goals first | trivial | (intro a wx hb hf hd)
      all_goals have hf0 : a.tmps[(0 : Nat)]?.getD undef = .pointer (some ⟨p, 0, none⟩) := (hf 0 (by decide +kernel)).trans rfl
      all_goals have hf3 : a.tmps[(3 : Nat)]?.getD undef = .int .i64 to_ := (hf 3 (by decide +kernel)).trans rfl
      all_goals have hf20 : a.tmps[(20 : Nat)]?.getD undef = .slice (some ⟨w3.heap.size, 0, none⟩) bA.size K := (hf 20 (by decide +kernel)).trans rfl
      · exact grow_tmp _ rfl ⟨hf0, fun h => by cases h⟩
      · have h114 : a.tmps[(114 : Nat)]?.getD undef = .pointer (some ⟨p, 0, none⟩) := hd 0 (by simp) (by kernel_rfl)
        refine grow_call (f := 9) (args := #[.pointer (some ⟨p, 0, none⟩)]) (by simp [execOp, h114, go_sem]) ?_
        refine (pspace p s bb l thv _ ((hb.block _ (lt_of_block HQ.out.2.1)).trans HQ.out.2.1)).mono ?_
        rintro e w3 ⟨rfl, rfl⟩
        exact ⟨_, rfl, Below.refl _ _, rfl, fun h => by cases h⟩
      · exact grow_tmp _ rfl ⟨hf3, fun h => by cases h⟩
      · exact grow_tmp _ rfl ⟨hf20, fun h => by cases h⟩
      · have h117 : a.tmps[(117 : Nat)]?.getD undef = .slice (some ⟨w3.heap.size, 0, none⟩) bA.size K := hd 3 (by simp) (by kernel_rfl)
        have qblk := HQ.out.2.2.2.2.2.2.2
        have hbk := (hb.block _ (lt_of_block qblk)).trans qblk
        have hlA : X.length = bA.size := by rw [HX.out, HB.out.2.2]
        have hrun := run_convert_bytes_back (P := Tryz.prog) wx 76 9 5 ⟨w3.heap.size, 0, none⟩ K X Tryz.underlying76 Tryz.underlying5 Tryz.underlying9 (fun j hj => by
          rw [addr0]
          have h1 : (byteCells X)[j]? = some (.int .u8 (X[j].toNat : Int)) := by simp [byteCells, List.getElem?_eq_getElem hj]
          rw [← HQ.out.2.2.2.2.2.1, List.getElem?_take_of_lt (by have := HX.out; omega)] at h1
          exact cell_l hbk j h1)
        rw [hlA] at hrun
        exact grow_value (v := .string ⟨X.toArray⟩) (by simp [execOp, Act.eval, h117, hrun]) (Below.refl _ _) ⟨rfl, fun h => by cases h⟩
    · intro fw w6 hb6 hs hn hne
      have g114 : fw 114 = .pointer (some ⟨p, 0, none⟩) := hs 0 (by simp)
      have g115 : fw 115 = .pointer (some ⟨s, 0, none⟩) := hs 1 (by simp)
      have g116 : fw 116 = .int .i64 to_ := hs 2 (by simp)
      have g117 : fw 117 = .slice (some ⟨w3.heap.size, 0, none⟩) bA.size K := hs 3 (by simp)
      have g118 : fw 118 = .string ⟨X.toArray⟩ := hs 4 (by simp)
      rw [show (List.range (List.length _)).map (dstOf _) = [114, 115, 116, 117, 118] from by kernel_rfl]
      simp only [actOf, List.foldl, Act.put, List.drop, List.length, g114, g115, g116, g117, g118, List.setIfInBounds_toArray, List.set_cons_zero, List.set_cons_succ]
      clear hs hn hne g114 g115 g116 g117 g118
      obtain ⟨qB, qp, qsp, q8, q10, _, _, qblk⟩ := HQ.out
      have HG6 := Lib.hid (And.intro ((hb6.cell (p := ⟨gx, 26, none⟩) HG5.out.2).trans HG5.out.1) (Nat.lt_of_lt_of_le HG5.out.2 hb6.size))
      have t8 := (hb6.block _ (lt_of_block q8)).trans q8
      have tp := (hb6.block _ (lt_of_block qp)).trans qp
      have ts2 := HZ.out.2.1.below hb6
      have l56 := HZ.out.1.size
      have lq := qB.size
      have HT2 := Lib.hid (And.intro t8 (And.intro tp ts2))
      clear t8 tp ts2
      have tB := qB.trans (hb6.mono qB.size)
      have tsp := qsp.below hb6
      have t10 := (hb6.block _ (lt_of_block q10)).trans q10
      have HT := Lib.hid (And.intro tB (And.intro tsp t10))
      clear qB qp qsp q8 q10 qblk tB tsp t10 hb6 HQ
      go_wp2_with fail
      go_at_call 35
      refine (write_at s _ ps to_ X _ HS.out.1 HT.out.2.1 k hk2 (by rw [HX.out]; exact HS.out.2.2.2)).mono ?_
      rintro e w7 ⟨rfl, ho7, hsp7⟩
      have hbkF : spaceFoot s (.slice (some ⟨gp, 0, none⟩) ps.length capp) ps (ps[k]'hk1.lt).blk := .inr (.inr ⟨_, List.getElem_mem hk1.lt, rfl⟩)
      have hbk : (ps[k]'hk1.lt).blk < w.heap.size := HS.out.2.1.lt _ hbkF
      have v10 := ho7.kept HT.out.2.2 (by omega)
      have v8 := ho7.kept HT2.out.1 (by omega)
      have vp := ho7.kept HT2.out.2.1 (by
        intro e
        exact HT.out.2.1.not_cells HT2.out.2.1 (by decide) (by decide) (by decide) (.inr (.inr ⟨_, List.getElem_mem hk1.lt, e.symm⟩)))
      have e7 := cell_in v10 4 rfl
      have e8 := cell_in v8 0 rfl
      have egx : w7.cell? ⟨gx, 26, none⟩ = some (.int .i64 512) := (ho7.cell HG6.out.2 (by have := HGX.out.2; omega)).trans HG6.out.1
      have vs2 := HT2.out.2.2.kept ho7 (by
        rintro b hb rfl
        have := HZ.out.2.2.2 _ hb
        have := HQB.out
        omega)
      have oS : Only (spaceFoot s (.slice (some ⟨gp, 0, none⟩) ps.length capp) ps) w w7 := (Only.of_below HT.out.1).then ho7 (by rintro b hb rfl; exact hbkF)
      have HV := Lib.hid (And.intro oS (And.intro hsp7 (And.intro vp vs2)))
      have hX7 : ps.set k ((ps[k]'hk1.lt).put to_ X) = ps.set k ((ps[k]'hk1.lt).put to_ bs) := by rw [HXX.out]
      have HX7 := Lib.hid hX7
      clear v10 v8 vp ho7 hsp7 e4 vs2 oS hbkF hX7
      have hsum : IntKind.i64.wrap (512 + code) = 512 + code := IntWalk.i64_in _ (by omega)
      go_wp2_with fail
      refine wp_region_still_tail 16 (by kernel_rfl) (by kernel_rfl) ?_
      simp only [List.take_succ_cons, List.take_zero, List.drop_succ_cons, List.drop_zero]
      generalize hU : World.mk w7.heap w7.tape (w7.drawn + 1) w7.os w7.output = U
      have hUV : U = w7.drew := hU.symm
      have uB : Below w7.heap.size w7 U := by rw [hUV]; exact (Below.refl _ _).drew
      have u7 : U.cell? ⟨w.heap.size + 1, 4, none⟩ = some (.int .i64 code) := by rw [hUV]; exact e7
      have u8 : U.cell? ⟨w.heap.size, 0, none⟩ = some (.int .i64 oa) := by rw [hUV]; exact e8
      have ux : U.cell? ⟨gx, 26, none⟩ = some (.int .i64 512) := by rw [hUV]; exact egx
      have HU := Lib.hid uB
      clear hU hUV uB e7 e8 egx
      repeat still_step
      refine wpStill_nil ?_
      clear hsum u7 u8 ux
      go_wp2_with fail
      go_at_call 36
      obtain ⟨oS, hsp7, vp, vs2⟩ := HV.out
      rw [HX7.out] at hsp7
      have vF : Forms U := HFF.out.1.only (oS.trans (Only.of_below HU.out)) HFF.out.2.1
      refine (HRUN.out U bb thv ((HU.out.block _ (lt_of_block vp)).trans vp) (hsp7.below HU.out) vF).mono ?_
      rintro e w8 ⟨rfl, ho8, g', cap', hsp8, hg8⟩
      have hlU := HU.out.size
      have hlS := oS.size
      have o8 : Only (spaceFoot s (.slice (some ⟨gp, 0, none⟩) ps.length capp) ps) w w8 := (oS.trans (Only.of_below HU.out)).then ho8 (fun _ _ h => h)
      have np : ¬ spaceFoot s (.slice (some ⟨gp, 0, none⟩) ps.length capp) ps p := HS.out.2.1.not_cells HP.out.2 (by decide) (by decide) (by decide)
      have vp8 := o8.kept HP.out.2 np
      have s28 := (vs2.below HU.out).kept ho8 (by
        intro b hb h
        have h1 := HS.out.2.1.lt b h
        have h2 := HZ.out.2.2.2 b hb
        have := HQB.out
        omega)
      have H8 := Lib.hid (And.intro o8 (And.intro vp8 (And.intro s28 (And.intro hsp8 hg8))))
      clear oS hsp7 vp vs2 vF ho8 hsp8 hg8 o8 np vp8 s28
      cases rb with
      | true =>
        go_wp2
        go_ret
        exact ⟨rfl, H8.out.1, g', ⟨cap', by simpa using H8.out.2.2.2.1⟩, by rcases H8.out.2.2.2.2 with h | h; exact .inl h; exact .inr (by omega)⟩
      | false =>
        go_wp2_with fail
        go_at_call 9
        refine (pspace p s bb l thv _ H8.out.2.1).mono ?_
        rintro e w9 ⟨rfl, rfl⟩
        go_wp2_with fail
        go_at_call 37
        have hql := HFF.out.2.2.len
        have hmv := HZ.out.2.2.1
        have hAQ : AreasOk Q2 := areas_like HS.out.1 hql (fun i h h' => by obtain ⟨d, hd⟩ := HFF.out.2.2.each i h h'; rw [hd]; exact ⟨rfl, rfl⟩)
        have hAN : AreasOk ns := areas_like HS.out.1 hmv.1 (fun i h h' => by obtain ⟨b, c, hd⟩ := hmv.2 i h h'; rw [hd]; exact ⟨rfl, rfl⟩)
        have hbe : ∀ q ∈ Q2, ∃ q' ∈ ps, q'.blk = q.blk := by
          intro q hq
          obtain ⟨i, hi, rfl⟩ := List.getElem_of_mem hq
          obtain ⟨d, hd⟩ := HFF.out.2.2.each i hi (by omega)
          exact ⟨ps[i]'(by omega), List.getElem_mem _, by rw [hd]⟩
        have hTw : Twin ns Q2 := ⟨by rw [hmv.1, hql], fun i h h' => by
          obtain ⟨b, c, e1⟩ := hmv.2 i h (by omega)
          obtain ⟨d, e2⟩ := HFF.out.2.2.each i h' (by omega)
          rw [e1, e2]; exact ⟨rfl, rfl, rfl, rfl, rfl⟩⟩
        have hres := crestore s s2 g' cap' g22 cap22 Q2 ns w8 hAQ hAN (by rw [hql]; exact H8.out.2.2.2.1) H8.out.2.2.1 hTw (by rw [hmv.1]; omega) (by
          rintro b hb ⟨q, hq, rfl⟩
          obtain ⟨q', hq', e⟩ := hbe q hq
          have h1 := HS.out.2.1.lt _ (.inr (.inr ⟨q', hq', e⟩))
          have h2 := HZ.out.2.2.2 _ hb
          have := HQB.out
          omega)
        have hzw : List.zipWith withData Q2 ns = ps := by
          have hm1 := hmv.1
          apply List.ext_getElem
          · rw [List.length_zipWith, hql, hmv.1, Nat.min_self]
          · intro i h h'
            rw [List.getElem_zipWith]
            obtain ⟨b, c, e1⟩ := hmv.2 i (by omega) h'
            obtain ⟨d, e2⟩ := HFF.out.2.2.each i (by omega) h'
            rw [e1, e2]; rfl
        rw [hzw, hql] at hres
        refine hres.mono ?_
        rintro e w10 ⟨rfl, ho10, hsp10⟩
        have o10 : Only (spaceFoot s (.slice (some ⟨gp, 0, none⟩) ps.length capp) ps) w w10 := H8.out.1.then ho10 (by
          rintro b hb ⟨q, hq, e⟩
          obtain ⟨q', hq', e'⟩ := hbe q hq
          exact .inr (.inr ⟨q', hq', e'.trans e⟩))
        have H10 := Lib.hid (And.intro o10 hsp10)
        clear hql hmv hAQ hAN hbe hTw hres hzw ho10 hsp10 o10
        go_wp2
        go_ret
        exact ⟨rfl, H10.out.1, g', ⟨cap', by simpa using H10.out.2⟩, by rcases H8.out.2.2.2.2 with h | h; exact .inl h; exact .inr (by omega)⟩
end Go.Proofs.YtkbilipgidcgeaaGreatDoor

namespace Go.Proofs.YtkbilipgidcgeaaGreatDoor
open Go.RowKit
attribute [local go_sem] ext_cell ext_frozen
attribute [local irreducible] labCells modC threadC

theorem lab_load (h0 : Nat) (B : ByteArray) (d : List UInt8) (n : PN) (g cap : Nat) (D : List UInt8) (a : Int) (w : World) (hL : LabProc h0 B d w n g cap D) (h2 : 768 ≤ a) (h3 : a - 768 + 8 ≤ 256) (hm : a.tmod 8 = 0) :
    Calls Tryz.prog 10 #[.pointer (some ⟨n.s, 0, none⟩), .int .i64 a, .int .i64 8] w fun e w' => Below w.heap.size w w' ∧ e = .returned (.tuple #[.int .i64 (sgn64 (leN (readL (dataQ n.b2 D) a 8))), .int .i64 0]) :=
  load_word n.s g cap (labP d n.b1 n.b2 n.b3 D) a w (areas_lab3 d D n.b1 n.b2 n.b3) hL.space 1 (last_data3 h2 (by omega)) _ rfl (by show a - 768 + 8 ≤ 256; exact h3) hm

theorem lab_space (h0 : Nat) (B : ByteArray) (d : List UInt8) (n : PN) (g cap : Nat) (D : List UInt8) (w : World) (hL : LabProc h0 B d w n g cap D) :
    Calls Tryz.prog 9 #[.pointer (some ⟨n.p, 0, none⟩)] w fun e w' => e = .returned (.pointer (some ⟨n.s, 0, none⟩)) ∧ w' = w := by
  obtain ⟨b, th, hp⟩ := hL.lite.head
  refine (pspace n.p n.s b n.l th _ hp).mono ?_
  rintro e w1 ⟨rfl, rfl⟩
  exact ⟨rfl, rfl⟩

theorem lab_run_bad (h0 : Nat) (B : ByteArray) (d : List UInt8) (n : PN) (g cap : Nat) (D : List UInt8) (v : Value) (pcs : List Pc) (bs : List UInt8) (bA : ByteArray) (hbA : bA = ⟨bs.toArray⟩) (w : World) (hL : LabProc h0 B d w n g cap D) (hw : h0 ≤ w.heap.size)
    (hv : PcsV h0 w v pcs) (hlen : pcs.length ≤ 100) (hbad : okL pcs bs = false) (hb : bs.length ≤ 128) (code : Int) :
    Calls Tryz.prog 12 #[.pointer (some ⟨n.p, 0, none⟩), .int .i64 0, .agg #[.int .i64 768, .int .i64 128], .int .i64 896, .agg #[.string ⟨#[]⟩, .string ⟨#[]⟩, .string ⟨#[]⟩, v, .int .i64 code], .string bA] w fun e w' => e = .returned (.int .i64 1) ∧ Below w.heap.size w w' := by
  have hsz : bA.size = bs.length := by subst hbA; simp [ByteArray.size]
  rcases hv with ⟨rfl, rfl⟩ | ⟨g, o, cap, rfl, hg, hp⟩
  · simp [okL] at hbad
  · exact crun_bad B n.p n.s n.l n.gm n.cm g o cap pcs 768 128 896 ⟨#[]⟩ ⟨#[]⟩ ⟨#[]⟩ code bA w hL.lite hp (by omega) hlen (by omega) (by omega) (by omega) (by rw [hsz]; exact hbad)

theorem lab_run_code (h0 : Nat) (B : ByteArray) (d : List UInt8) (n : PN) (g cap : Nat) (D : List UInt8) (v : Value) (pcs : List Pc) (bs : List UInt8) (bA : ByteArray) (hbA : bA = ⟨bs.toArray⟩) (w : World) (hL : LabProc h0 B d w n g cap D) (hw : h0 ≤ w.heap.size) (hf : Forms w) (hpos : 0 < h0)
    (hv : PcsV h0 w v pcs) (hlen : pcs.length ≤ 100) (hok : okL pcs bs = true) (hb : bs.length ≤ 128) (code : Int) (hcb : 0 ≤ code) (hcb2 : code ≤ 1000) (N : Nat) (R : Nat → Nat → Int) (PC K E : Nat → Int) (Qd : Nat → List UInt8) (rb : Bool)
    (hS : Steps n.s 2560 N R PC K E (fun i => labP d n.b1 n.b2 n.b3 (Qd i)) (fun _ => List.replicate 1024 0)) (hQ : Qd 0 = convD D bs pcs)
    (hR0 : (cpuL (R 0) (PC 0)).toArray = #[.int .i64 768, .int .i64 896, .int .i64 0, .int .i64 0, .int .i64 0, .int .i64 0, .int .i64 0, .int .i64 0, .int .i64 0, .int .i64 0, .int .i64 0, .int .i64 0, .int .i64 0, .int .i64 0, .int .i64 0, (.int .i64 (2560 + 1024 - 8)), .int .i64 (512 + code)])
    (hK : ∀ i, i + 1 < N → K i = 0 ∨ K i = 1) (hlast : (K (N - 1) = 4 ∧ rb = true) ∨ (K (N - 1) = 2 ∧ rb = false) ∨ (N = 1000 ∧ (K (N - 1) = 0 ∨ K (N - 1) = 1) ∧ rb = false)) :
    Calls Tryz.prog 12 #[.pointer (some ⟨n.p, 0, none⟩), .int .i64 0, .agg #[.int .i64 768, .int .i64 128], .int .i64 896, .agg #[.string ⟨#[]⟩, .string ⟨#[]⟩, .string ⟨#[]⟩, v, .int .i64 code], .string bA] w fun e w' => e = .returned (.int .i64 (if rb = true then 0 else 16)) ∧
      Only (spaceFoot n.s (.slice (some ⟨g, 0, none⟩) 3 cap) (labP d n.b1 n.b2 n.b3 D)) w w' ∧ ∃ g' cap', LabProc h0 B d w' n g' cap' (if rb = true then Qd N else D) := by
  have hf0 : ∀ D', ¬ spaceFoot n.s (.slice (some ⟨g, 0, none⟩) 3 cap) (labP d n.b1 n.b2 n.b3 D') 0 := fun D' h => by
    have := hL.fresh 0 (foot_lab h); omega
  have key : ∀ (W : World) (bb : Nat) (thv : Value), W.heap[n.p]? = some (.cells (procC n.s bb n.l thv).toArray 81 (0, 0)) → SpaceAt W n.s (.slice (some ⟨g, 0, none⟩) 3 cap) (labP d n.b1 n.b2 n.b3 (convD D bs pcs)) → Forms W →
      Calls Tryz.prog 36 #[.pointer (some ⟨n.p, 0, none⟩), .int .i64 (512 + code), .int .i64 768, .int .i64 896] W fun e w' => e = .returned (.bool rb) ∧ Only (spaceFoot n.s (.slice (some ⟨g, 0, none⟩) 3 cap) (labP d n.b1 n.b2 n.b3 D)) W w' ∧
        ∃ g' cap', SpaceAt w' n.s (.slice (some ⟨g', 0, none⟩) 3 cap') (labP d n.b1 n.b2 n.b3 (Qd N)) ∧ (g' = g ∨ W.heap.size ≤ g') := by
    intro W bb thv hp hs hfW
    have := cinner n.p n.s bb n.l g cap thv (labP d n.b1 n.b2 n.b3 (convD D bs pcs)) 2560 768 896 (512 + code) N R PC K E _ _ rb W hp (areas_lab3 d _ n.b1 n.b2 n.b3) hs hfW hS (by rw [hQ]) rfl (by simp [labP]) (by rfl) (by refine ⟨by omega, by omega, by rfl⟩) (by
      intro p hp
      simp only [labP, List.mem_cons, List.not_mem_nil, or_false] at hp
      rcases hp with rfl | rfl | rfl
      · show (512 : Int) + 256 ≤ 2560; omega
      · show (768 : Int) + 256 ≤ 2560; omega
      · show (1280 : Int) + 1024 ≤ 2560; omega) (by simp [labP]) (hf0 _) hR0 hK hlast
    refine this.mono ?_
    rintro e w' ⟨rfl, ho, g', cap', hs, hg'⟩
    exact ⟨rfl, ho.mono fun x _ hx => foot_lab hx, g', cap', hs, hg'⟩
  have hcm : (code != -1) = true := by simp; omega
  have hQ2 : SameBut (labP d n.b1 n.b2 n.b3 (Qd N)) (labP d n.b1 n.b2 n.b3 D) := ⟨rfl, fun i hi hi' => by
    have : i = 0 ∨ i = 1 ∨ i = 2 := by simp [labP] at hi; omega
    rcases this with rfl | rfl | rfl
    · exact ⟨_, rfl⟩
    · exact ⟨_, rfl⟩
    · exact ⟨_, rfl⟩⟩
  have fin : ∀ (e : Ending) (w' : World), (e = .returned (.int .i64 (if rb = true then 0 else 16)) ∧ Only (spaceFoot n.s (.slice (some ⟨g, 0, none⟩) 3 cap) (labP d n.b1 n.b2 n.b3 D)) w w' ∧
      ∃ g' cap', SpaceAt w' n.s (.slice (some ⟨g', 0, none⟩) 3 cap') (if rb = true then labP d n.b1 n.b2 n.b3 (Qd N) else labP d n.b1 n.b2 n.b3 D) ∧ (g' = g ∨ w.heap.size ≤ g')) →
      (e = .returned (.int .i64 (if rb = true then 0 else 16)) ∧ Only (spaceFoot n.s (.slice (some ⟨g, 0, none⟩) 3 cap) (labP d n.b1 n.b2 n.b3 D)) w w' ∧ ∃ g' cap', LabProc h0 B d w' n g' cap' (if rb = true then Qd N else D)) := by
    rintro e w' ⟨he, ho, g', cap', hs, hg'⟩
    refine ⟨he, ho, g', cap', ?_⟩
    cases rb with
    | true => exact hL.new ho hs hg' hw
    | false => exact hL.new ho hs hg' hw
  rcases hv with ⟨rfl, rfl⟩ | ⟨gp, o, cp, rfl, hg, hp⟩
  · refine (crun_code_nil B n.p n.s n.l n.gm n.cm g cap 768 128 896 code ⟨#[]⟩ ⟨#[]⟩ ⟨#[]⟩ bs bA hbA (labP d n.b1 n.b2 n.b3 D) (labP d n.b1 n.b2 n.b3 (Qd N)) 1 rb w hL.lite (by omega) (by omega) (by omega) (areas_lab3 d D n.b1 n.b2 n.b3) hL.space (last_data3 (by omega) (by omega)) (by show (768 : Int) - 768 + 128 ≤ 256; omega) (last_data3 (by omega) (by omega)) (by show (896 : Int) - 768 + _ ≤ 256; omega)
      hcm hcb hcb2 hf (hf0 _) hQ2 (fun W bb thv hp hs hfW => key W bb thv hp hs hfW)).mono fin
  · refine (crun_code B n.p n.s n.l n.gm n.cm gp o cp g cap pcs 768 128 896 code ⟨#[]⟩ ⟨#[]⟩ ⟨#[]⟩ bs bA hbA (labP d n.b1 n.b2 n.b3 D) (labP d n.b1 n.b2 n.b3 (Qd N)) 1 rb w hL.lite hp (by omega) hlen (by omega) (by omega) (by omega) hok (areas_lab3 d D n.b1 n.b2 n.b3) hL.space (last_data3 (by omega) (by omega)) (by show (768 : Int) - 768 + 128 ≤ 256; omega) (last_data3 (by omega) (by omega)) (by show (896 : Int) - 768 + _ ≤ 256; omega)
      hcm hcb hcb2 hf (hf0 _) hQ2 (fun W bb thv hp hs hfW => key W bb thv hp hs hfW)).mono fin

theorem convD_length (D bs : List UInt8) (pcs : List Pc) (hD : D.length = 256) (hb : bs.length ≤ 128) (hok : okL pcs bs = true) : (convD D bs pcs).length = 256 := by
  have e1 := applyL_length (take_len (by omega : 128 ≤ D.length)) pcs bs hok
  unfold convD
  rw [putL_length _ _ _ (by omega), hD]

/-- The second converter fails: nothing changes. -/
theorem run64 (h0 : Nat) (B : ByteArray) (d : List UInt8) (n : PN) (g cap : Nat) (D : List UInt8) (hD : D.length = 256) (v : Value) (pcs : List Pc) (bs : List UInt8) (bA : ByteArray) (hbA : bA = ⟨bs.toArray⟩) (w : World) (hL : LabProc h0 B d w n g cap D) (hw : h0 ≤ w.heap.size) (hf : Forms w) (hpos : 0 < h0)
    (hv : PcsV h0 w v pcs) (hlen : pcs.length ≤ 100) (hok : okL pcs bs = true) (hb : bs.length ≤ 128) :
    Calls Tryz.prog 12 #[.pointer (some ⟨n.p, 0, none⟩), .int .i64 0, .agg #[.int .i64 768, .int .i64 128], .int .i64 896, .agg #[.string ⟨#[]⟩, .string ⟨#[]⟩, .string ⟨#[]⟩, v, .int .i64 64], .string bA] w fun e w' => e = .returned (.int .i64 16) ∧
      Only (spaceFoot n.s (.slice (some ⟨g, 0, none⟩) 3 cap) (labP d n.b1 n.b2 n.b3 D)) w w' ∧ ∃ g' cap', LabProc h0 B d w' n g' cap' D :=
  lab_run_code h0 B d n g cap D v pcs bs bA hbA w hL hw hf hpos hv hlen hok hb 64 (by omega) (by omega) 3 _ _ _ _ _ false (steps64 n.s n.b1 n.b2 n.b3 d (convD D bs pcs) 896 (convD_length D bs pcs hD hb hok) (by omega) (by omega) (by decide)) rfl rfl
    (by intro i hi; show (i : Int) = 0 ∨ (i : Int) = 1; omega) (.inr (.inl ⟨rfl, rfl⟩))

/-- The third converter never ends: nothing changes. -/
theorem run96 (h0 : Nat) (B : ByteArray) (d : List UInt8) (n : PN) (g cap : Nat) (D : List UInt8) (hD : D.length = 256) (v : Value) (pcs : List Pc) (bs : List UInt8) (bA : ByteArray) (hbA : bA = ⟨bs.toArray⟩) (w : World) (hL : LabProc h0 B d w n g cap D) (hw : h0 ≤ w.heap.size) (hf : Forms w) (hpos : 0 < h0)
    (hv : PcsV h0 w v pcs) (hlen : pcs.length ≤ 100) (hok : okL pcs bs = true) (hb : bs.length ≤ 128) :
    Calls Tryz.prog 12 #[.pointer (some ⟨n.p, 0, none⟩), .int .i64 0, .agg #[.int .i64 768, .int .i64 128], .int .i64 896, .agg #[.string ⟨#[]⟩, .string ⟨#[]⟩, .string ⟨#[]⟩, v, .int .i64 96], .string bA] w fun e w' => e = .returned (.int .i64 16) ∧
      Only (spaceFoot n.s (.slice (some ⟨g, 0, none⟩) 3 cap) (labP d n.b1 n.b2 n.b3 D)) w w' ∧ ∃ g' cap', LabProc h0 B d w' n g' cap' D :=
  lab_run_code h0 B d n g cap D v pcs bs bA hbA w hL hw hf hpos hv hlen hok hb 96 (by omega) (by omega) 1000 _ _ _ _ _ false (steps96 n.s n.b1 n.b2 n.b3 d (convD D bs pcs) (convD_length D bs pcs hD hb hok)) rfl rfl
    (fun i hi => .inl rfl) (.inr (.inr ⟨rfl, .inl rfl, rfl⟩))

theorem word_at (D : List UInt8) (b : Nat) (a : Int) (h1 : 768 ≤ a) (h2 : a + 8 ≤ 896) : readL (dataQ b D) a 8 = ((D.take 128).drop (a - 768).toNat).take 8 := by
  show (D.drop (a - 768).toNat).take 8 = _
  rw [List.drop_take, List.take_take, Nat.min_eq_left (by omega)]

theorem conv_word (D bs : List UInt8) (pcs : List Pc) (hD : D.length = 256) (b : Nat) (a : Int) (h1 : 768 ≤ a) (h2 : a + 8 ≤ 896) : readL (dataQ b (convD D bs pcs)) a 8 = readL (dataQ b D) a 8 := by
  rw [word_at _ _ _ h1 h2, word_at _ _ _ h1 h2, convD_take D bs pcs (by omega)]

/-- The first converter puts the sum of the words into the second new word. -/
theorem run8 (h0 : Nat) (B : ByteArray) (d : List UInt8) (n : PN) (g cap : Nat) (D : List UInt8) (hD : D.length = 256) (v : Value) (pcs : List Pc) (bs : List UInt8) (bA : ByteArray) (hbA : bA = ⟨bs.toArray⟩) (w : World) (hL : LabProc h0 B d w n g cap D) (hw : h0 ≤ w.heap.size) (hf : Forms w) (hpos : 0 < h0)
    (hv : PcsV h0 w v pcs) (hlen : pcs.length ≤ 100) (hok : okL pcs bs = true) (hb : bs.length ≤ 128) :
    Calls Tryz.prog 12 #[.pointer (some ⟨n.p, 0, none⟩), .int .i64 0, .agg #[.int .i64 768, .int .i64 128], .int .i64 896, .agg #[.string ⟨#[]⟩, .string ⟨#[]⟩, .string ⟨#[]⟩, v, .int .i64 8], .string bA] w fun e w' => e = .returned (.int .i64 0) ∧
      Only (spaceFoot n.s (.slice (some ⟨g, 0, none⟩) 3 cap) (labP d n.b1 n.b2 n.b3 D)) w w' ∧ ∃ g' cap', LabProc h0 B d w' n g' cap' (putL (convD D bs pcs) 136 (wordL (IntKind.i64.wrap (sgn64 (leN (readL (dataQ n.b2 D) 768 8)) + sgn64 (leN (readL (dataQ n.b2 D) 776 8)))))) :=
  lab_run_code h0 B d n g cap D v pcs bs bA hbA w hL hw hf hpos hv hlen hok hb 8 (by omega) (by omega) 6 _ _ _ _ _ true
    (steps8 n.s n.b1 n.b2 n.b3 d (convD D bs pcs) (convD_length D bs pcs hD hb hok) _ _ (by rw [conv_word D bs pcs hD n.b2 768 (by omega) (by omega)]) (by rw [conv_word D bs pcs hD n.b2 776 (by omega) (by omega)])) rfl rfl
    (by intro i hi; exact .inl (if_neg (by omega))) (.inl ⟨rfl, rfl⟩)

theorem wrap_range (n : Int) : -9223372036854775808 ≤ IntKind.i64.wrap n ∧ IntKind.i64.wrap n ≤ 9223372036854775807 := by
  rw [IntKind.wrap_i64]; omega

/-- The word that stands there then. -/
theorem sum_word (D : List UInt8) (hD : D.length = 256) (b : Nat) (n : Int) : sgn64 (leN (readL (dataQ b (putL D 136 (wordL (IntKind.i64.wrap n)))) 904 8)) = IntKind.i64.wrap n := by
  have h : readL (dataQ b (putL D 136 (wordL (IntKind.i64.wrap n)))) 904 8 = wordL (IntKind.i64.wrap n) := by
    show ((putL D 136 (wordL (IntKind.i64.wrap n))).drop (904 - 768 : Int).toNat).take 8 = _
    rw [show (904 - 768 : Int).toNat = 136 from rfl]
    unfold putL
    have h1 : (D.take 136).length = 136 := by simp; omega
    rw [List.append_assoc, List.drop_left' h1, List.take_left' (wordL_length _)]
  rw [h]
  exact sgn64_low _ (wrap_range n).1 (wrap_range n).2
end Go.Proofs.YtkbilipgidcgeaaGreatDoor
