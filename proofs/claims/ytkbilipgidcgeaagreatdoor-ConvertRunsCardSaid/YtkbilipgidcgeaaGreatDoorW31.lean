/- convert: Run without code and without pieces; of no module. -/
import Derived.IntWalk
import Derived.Deep.QuietTactic
import Derived.BigQuiet
import Derived.Test.YtkbilipgidcgeaaGreatDoorW30
import Derived.Test.YtkbilipgidcgeaaGreatDoorW29
import Derived.Test.YtkbilipgidcgeaaGreatDoorW10
set_option linter.unusedVariables false
set_option linter.unusedSimpArgs false
namespace Go.Proofs.YtkbilipgidcgeaaGreatDoor
open Go.RowKit
attribute [local go_sem] ext_cell ext_frozen
attribute [local irreducible] labCells modC threadC

set_option maxRecDepth 100000 in
set_option maxHeartbeats 4000000 in
theorem crun_nil (B : ByteArray) (p s l gm cm : Nat) (oa n0 to_ : Int) (o1 s1 f1 : ByteArray) (bs : List UInt8) (bA : ByteArray) (hbA : bA = ⟨bs.toArray⟩) (pv : Value) (ps : List Part) (k : Nat) (w : World) (hP : ProcLite B w p s l gm cm)
    (h0 : 0 ≤ n0) (h1 : n0 ≤ 100000) (h2 : bs.length ≤ 100000)
    (hA : AreasOk ps) (hsp : SpaceAt w s pv ps) (hk1 : LastAt ps oa k) (hin1 : oa - (ps[k]'hk1.lt).at_ + n0 ≤ (ps[k]'hk1.lt).size) (hk2 : LastAt ps to_ k) (hin2 : to_ - (ps[k]'hk1.lt).at_ + bs.length ≤ (ps[k]'hk1.lt).size) :
    Calls Tryz.prog 12 #[.pointer (some ⟨p, 0, none⟩), .int .i64 0, .agg #[.int .i64 oa, .int .i64 n0], .int .i64 to_, .agg (convC o1 s1 f1 (.slice none 0 0) (-1)), .string bA] w fun e w' => e = .returned (.int .i64 0) ∧
      Only (· = (ps[k]'hk1.lt).blk) w w' ∧ SpaceAt w' s pv (ps.set k ((ps[k]'hk1.lt).put to_ bs)) := by
  obtain ⟨bb, thv, hp⟩ := hP.head
  have hklt := hk1.lt
  obtain ⟨gp, capp, rfl, _⟩ := hsp.parts (fun e => by rw [e] at hklt; simp at hklt)
  have HLEN := Lib.hid (show (readL (ps[k]'hk1.lt) oa n0).length = n0.toNat from by
    obtain ⟨b1, b2, cur, b3, b4, b5⟩ := hsp.bytes.2 _ (List.getElem_mem hk1.lt)
    have := hk1.le
    simp [readL]; omega)
  have HP := Lib.hid (And.intro hP hp)
  have hsz : bA.size = bs.length := by subst hbA; simp [ByteArray.size]
  have h2' : bA.size ≤ 100000 := by omega
  have HB := Lib.hid (And.intro trivial (And.intro hbA hsz))
  have HS := Lib.hid (And.intro hA (And.intro hsp (And.intro hin1 hin2)))
  clear hP hp hsz hbA hA hsp hin1 hin2 h2
  unfold convC
  go_enter Tryz.func12, Tryz.ntmps12
  go_wp2_with (first
    | (go_at_call 32; refine (pmods B p s l gm cm _ (HP.out.1.below (by go_grown))).mono ?_
       rintro e w1 ⟨hb1, gx, cx, rfl, hown1⟩
       have hbase := (row_cell hown1 26 (modC_get26 B 512 1)).1
       have lgx := (ownsRow_lt hown1).2.1
       have k8 := (hb1.block w.heap.size (by simp; omega)).trans (block_old (heap_alloc_new w _))
       have k10 := (hb1.block (w.heap.size + 1) (by simp)).trans (heap_alloc2_new w _ _)
       have e1 := cell_in k8 1 rfl
       have m3 := cell_in k10 3 rfl
       have ls1 := size_call2 hb1
       have hB1 := below_call (((Below.refl _ _).alloc (Nat.le_refl _) _).alloc (by simp) _) hb1
       have H1 := Lib.hid (And.intro hB1 (And.intro k8 k10)); clear hb1 hown1 k8 k10 hB1))
  refine wp_loop_rounds 1 ?_
  rw [rounds_succ]
  go_upto_region 10 with fail
  obtain ⟨hB, k8, k10⟩ := H1.out
  clear m3 e1
  have kp := (hB.block _ (lt_of_block HP.out.2)).trans HP.out.2
  have ksp := HS.out.2.1.below hB
  refine wp_region_facts [.val (.pointer (some ⟨p, 0, none⟩)), .val (.pointer (some ⟨s, 0, none⟩)), .val (.pointer (some ⟨w.heap.size, 0, none⟩)), .val (.int .i64 oa), .val (.pointer (some ⟨w.heap.size, 1, none⟩)), .val (.int .i64 n0), .val (.tuple #[.string ⟨(readL (ps[k]'hk1.lt) oa n0).toArray⟩, .int .i64 0]), .val (.tuple #[.string ⟨(readL (ps[k]'hk1.lt) oa n0).toArray⟩, .int .i64 0]), .val (.string ⟨(readL (ps[k]'hk1.lt) oa n0).toArray⟩), .val (.int .i64 0), .val (.string ⟨(readL (ps[k]'hk1.lt) oa n0).toArray⟩), .val (.int .i64 0)] (by kernel_rfl) (by kernel_rfl) ?_ ?_
  · simp only [stepsAll, List.take, List.length]
    refine ⟨?_, ?_, ?_, ?_, ?_, ?_, ?_, ?_, ?_, ?_, ?_, ?_, ?_⟩
    all_goals first | trivial | (intro a wr hb hf hd)
    all_goals have hf0 : a.tmps[(0 : Nat)]?.getD undef = .pointer (some ⟨p, 0, none⟩) := (hf 0 (by decide +kernel)).trans rfl
    all_goals have hf8 : a.tmps[(8 : Nat)]?.getD undef = .pointer (some ⟨w.heap.size, 0, none⟩) := (hf 8 (by decide +kernel)).trans rfl
    · exact grow_tmp _ rfl ⟨hf0, fun h => by cases h⟩
    · have h63 : a.tmps[(63 : Nat)]?.getD undef = .pointer (some ⟨p, 0, none⟩) := hd 0 (by simp) (by kernel_rfl)
      refine grow_call (f := 9) (args := #[.pointer (some ⟨p, 0, none⟩)]) (by simp [execOp, h63, go_sem]) ?_
      refine (pspace p s bb l thv _ ((hb.block _ (lt_of_block kp)).trans kp)).mono ?_
      rintro e w3 ⟨rfl, rfl⟩
      exact ⟨_, rfl, Below.refl _ _, rfl, fun h => by cases h⟩
    · exact grow_value (v := .pointer (some ⟨w.heap.size, 0, none⟩)) (by simp [execOp, hf8, go_sem]) (Below.refl _ _) ⟨rfl, fun h => by cases h⟩
    · have h65 : a.tmps[(65 : Nat)]?.getD undef = .pointer (some ⟨w.heap.size, 0, none⟩) := hd 2 (by simp) (by kernel_rfl)
      have hc := cell_l ((hb.block _ (lt_of_block k8)).trans k8) 0 (rfl)
      exact grow_value (v := .int .i64 oa) (by simp [execOp, h65, hc, go_sem]) (Below.refl _ _) ⟨rfl, fun h => by cases h⟩
    · exact grow_value (v := .pointer (some ⟨w.heap.size, 1, none⟩)) (by simp [execOp, hf8, go_sem]) (Below.refl _ _) ⟨rfl, fun h => by cases h⟩
    · have h67 : a.tmps[(67 : Nat)]?.getD undef = .pointer (some ⟨w.heap.size, 1, none⟩) := hd 4 (by simp) (by kernel_rfl)
      have hc := cell_l ((hb.block _ (lt_of_block k8)).trans k8) 1 (rfl)
      exact grow_value (v := .int .i64 n0) (by simp [execOp, h67, hc, go_sem]) (Below.refl _ _) ⟨rfl, fun h => by cases h⟩
    · have h64 : a.tmps[(64 : Nat)]?.getD undef = .pointer (some ⟨s, 0, none⟩) := hd 1 (by simp) (by kernel_rfl)
      have h66 : a.tmps[(66 : Nat)]?.getD undef = .int .i64 oa := hd 3 (by simp) (by kernel_rfl)
      have h68 : a.tmps[(68 : Nat)]?.getD undef = .int .i64 n0 := hd 5 (by simp) (by kernel_rfl)
      refine grow_call (f := 11) (args := #[.pointer (some ⟨s, 0, none⟩), .int .i64 oa, .int .i64 n0]) (by simp [execOp, h64, h66, h68, go_sem]) ?_
      refine (read_at s _ ps oa n0 _ HS.out.1 (ksp.below hb) k hk1 HS.out.2.2.1 h0).mono ?_
      rintro e w3 ⟨hb3, rfl⟩
      exact ⟨_, rfl, hb3, rfl, fun h => by cases h⟩
    · have h69 : a.tmps[(69 : Nat)]?.getD undef = .tuple #[.string ⟨(readL (ps[k]'hk1.lt) oa n0).toArray⟩, .int .i64 0] := hd 6 (by simp) (by kernel_rfl)
      exact grow_tmp _ rfl ⟨h69, fun h => by cases h⟩
    · have h62 : a.tmps[(62 : Nat)]?.getD undef = .tuple #[.string ⟨(readL (ps[k]'hk1.lt) oa n0).toArray⟩, .int .i64 0] := hd 7 (by simp) (by kernel_rfl)
      exact grow_value (v := .string ⟨(readL (ps[k]'hk1.lt) oa n0).toArray⟩) (by simp [execOp, h62, go_sem]) (Below.refl _ _) ⟨rfl, fun h => by cases h⟩
    · have h62 : a.tmps[(62 : Nat)]?.getD undef = .tuple #[.string ⟨(readL (ps[k]'hk1.lt) oa n0).toArray⟩, .int .i64 0] := hd 7 (by simp) (by kernel_rfl)
      exact grow_value (v := .int .i64 0) (by simp [execOp, h62, go_sem]) (Below.refl _ _) ⟨rfl, fun h => by cases h⟩
    · have h70 : a.tmps[(70 : Nat)]?.getD undef = .string ⟨(readL (ps[k]'hk1.lt) oa n0).toArray⟩ := hd 8 (by simp) (by kernel_rfl)
      exact grow_value (v := .string ⟨(readL (ps[k]'hk1.lt) oa n0).toArray⟩) (by simp [execOp, h70, go_sem]) (Below.refl _ _) ⟨rfl, fun h => by cases h⟩
    · have h71 : a.tmps[(71 : Nat)]?.getD undef = .int .i64 0 := hd 9 (by simp) (by kernel_rfl)
      exact grow_value (v := .int .i64 0) (by simp [execOp, h71, go_sem]) (Below.refl _ _) ⟨rfl, fun h => by cases h⟩
  · intro fv w2 hb2 hs hn hne
    have g63 : fv 63 = .pointer (some ⟨p, 0, none⟩) := hs 0 (by simp)
    have g64 : fv 64 = .pointer (some ⟨s, 0, none⟩) := hs 1 (by simp)
    have g65 : fv 65 = .pointer (some ⟨w.heap.size, 0, none⟩) := hs 2 (by simp)
    have g66 : fv 66 = .int .i64 oa := hs 3 (by simp)
    have g67 : fv 67 = .pointer (some ⟨w.heap.size, 1, none⟩) := hs 4 (by simp)
    have g68 : fv 68 = .int .i64 n0 := hs 5 (by simp)
    have g69 : fv 69 = .tuple #[.string ⟨(readL (ps[k]'hk1.lt) oa n0).toArray⟩, .int .i64 0] := hs 6 (by simp)
    have g62 : fv 62 = .tuple #[.string ⟨(readL (ps[k]'hk1.lt) oa n0).toArray⟩, .int .i64 0] := hs 7 (by simp)
    have g70 : fv 70 = .string ⟨(readL (ps[k]'hk1.lt) oa n0).toArray⟩ := hs 8 (by simp)
    have g71 : fv 71 = .int .i64 0 := hs 9 (by simp)
    have g16 : fv 16 = .string ⟨(readL (ps[k]'hk1.lt) oa n0).toArray⟩ := hs 10 (by simp)
    have g17 : fv 17 = .int .i64 0 := hs 11 (by simp)
    rw [show (List.range (List.length _)).map (dstOf _) = [63, 64, 65, 66, 67, 68, 69, 62, 70, 71, 16, 17] from by kernel_rfl]
    simp only [actOf, List.foldl, Act.put, List.drop, List.length, g63, g64, g65, g66, g67, g68, g69, g62, g70, g71, g16, g17, List.setIfInBounds_toArray, List.set_cons_zero, List.set_cons_succ]
    clear hs hn hne g63 g64 g65 g66 g67 g68 g69 g62 g70 g71 g16 g17
    have jB := hB.trans (hb2.mono hB.size)
    have j8 := (hb2.block _ (lt_of_block k8)).trans k8
    have j10 := (hb2.block _ (lt_of_block k10)).trans k10
    have jp := (hb2.block _ (lt_of_block kp)).trans kp
    have jsp := ksp.below hb2
    have HJ := Lib.hid (And.intro jB (And.intro j8 (And.intro j10 (And.intro jp jsp))))
    clear hB hb2 k8 k10 kp ksp jB j8 j10 jp jsp
    go_wp2_with fail
    go_at_call 9
    refine (pspace p s bb l thv _ HJ.out.2.2.2.1).mono ?_
    rintro e w3 ⟨rfl, rfl⟩
    go_wp2_with fail
    go_at_call 11
    refine (read_at s _ ps to_ bA.size _ HS.out.1 HJ.out.2.2.2.2 k hk2 (by rw [HB.out.2.2]; exact HS.out.2.2.2) (by omega)).mono ?_
    rintro e w3 ⟨hb3, rfl⟩
    have hcv := fun (w : World) (s : ByteArray) => run_bytes_of_string (P := Tryz.prog) w 9 76 5 s Tryz.underlying9 Tryz.underlying76 Tryz.underlying5
    obtain ⟨jB, j8, j10, jp, jsp⟩ := HJ.out
    have m8 := (hb3.block _ (lt_of_block j8)).trans j8
    have m10 := (hb3.block _ (lt_of_block j10)).trans j10
    have mp := (hb3.block _ (lt_of_block jp)).trans jp
    have msp := jsp.below hb3
    have mB := jB.trans (hb3.mono jB.size)
    have e3 := cell_in m10 3 rfl
    have HM := Lib.hid (And.intro mB (And.intro m8 (And.intro m10 (And.intro mp msp))))
    have l3 := mB.size
    have l8 := lt_of_block m8
    have l10 := lt_of_block m10
    clear jB j8 j10 jp jsp m8 m10 mp msp mB HJ hb3
    go_wp2_with fail
    obtain ⟨K, hK⟩ : ∃ K, K = grownCap w3 bA.size 0 5 := ⟨_, rfl⟩
    have hK2 : bA.size ≤ K := by rw [hK]; exact grownCap_ge _ _ _ _
    rw [← hK]
    obtain ⟨C, hC⟩ : ∃ C, C = bytesRow bA K := ⟨_, rfl⟩
    rw [← hC]
    have hCl : C.toList = byteCells bs ++ List.replicate (K - bs.length) (.int .u8 0) := by
      rw [hC, HB.out.2.1]; simp [bytesRow, byteCells, ByteArray.size]
    have hCs : bs.length ≤ C.size := by rw [← Array.length_toList, hCl]; simp [byteCells_length]
    refine name_world fun W hW => ?_
    have hbW : Below w3.heap.size w3 W := by rw [← hW]; go_grown
    have hB0 : W.heap[w3.heap.size]? = some (.cells C.toList.toArray 5 (C.size, C.size + 1)) := by rw [← hW]; exact heap_alloc_new w3 _
    have HW := Lib.hid (And.intro hB0 (And.intro hCl hbW))
    clear hB0 hCl hbW hC hK hW
    refine wp_loop_rounds 1 ?_
    rw [rounds_succ]
    obtain ⟨mB, m8, m10, mp, msp⟩ := HM.out
    have hbW := HW.out.2.2
    have rp := (hbW.block _ (lt_of_block mp)).trans mp
    have rsp := msp.below hbW
    have r8 := (hbW.block _ (lt_of_block m8)).trans m8
    have r10 := (hbW.block _ (lt_of_block m10)).trans m10
    have rB : Below w.heap.size w W := mB.trans (hbW.mono l3)
    have htk : C.toList.take bs.length = byteCells bs := by
      rw [HW.out.2.1, List.take_append_of_le_length (by simp [byteCells_length]), List.take_of_length_le (by simp [byteCells_length])]
    have hlen : C.toList.length = C.size := by simp
    have hblk := HW.out.1
    have HR := Lib.hid (And.intro rB (And.intro rp (And.intro rsp (And.intro r8 (And.intro r10 (And.intro htk (And.intro hlen hblk)))))))
    have e4 := cell_in r10 4 rfl
    clear mB m8 m10 mp msp hbW rp rsp r8 r10 rB hlen htk hblk
    go_wp2_with fail
    go_at_call 9
    refine (pspace p s bb l thv _ HR.out.2.1).mono ?_
    rintro e w4 ⟨rfl, rfl⟩
    go_wp2_with fail
    go_at_call 34
    refine (copy_row s gp capp ps _ HS.out.1 HR.out.2.2.1 (by omega)).mono ?_
    rintro e w5 ⟨hb5, s2, pv2, ns, rfl, hsp2, hmv, hft⟩
    obtain ⟨rB, rp, rsp, r8, r10, htk, hlen, hblk⟩ := HR.out
    have qp := (hb5.block _ (lt_of_block rp)).trans rp
    have qsp := rsp.below hb5
    have q8 := (hb5.block _ (lt_of_block r8)).trans r8
    have q10 := (hb5.block _ (lt_of_block r10)).trans r10
    have qblk := (hb5.block _ (lt_of_block hblk)).trans hblk
    have qB := rB.trans (hb5.mono rB.size)
    have HQ := Lib.hid (And.intro qB (And.intro qp (And.intro qsp (And.intro q8 (And.intro q10 (And.intro htk (And.intro hlen qblk)))))))
    have HZ := Lib.hid (And.intro hb5 (And.intro hsp2 (And.intro hmv hft)))
    clear rB rp rsp r8 r10 htk hlen hblk qp qsp q8 q10 qblk qB HR hb5 hsp2 hmv hft
    go_upto_region 21 with fail
    obtain ⟨X, hX⟩ : ∃ X, X = bs := ⟨_, rfl⟩
    have HXX := Lib.hid hX
    rw [← hX] at HQ
    have HX := Lib.hid (show X.length = bs.length by rw [hX])
    clear hX
    refine wp_region_facts [.val (.pointer (some ⟨p, 0, none⟩)), .val (.pointer (some ⟨s, 0, none⟩)), .val (.int .i64 to_), .val (.slice (some ⟨w3.heap.size, 0, none⟩) bA.size K), .val (.string ⟨X.toArray⟩)] (by kernel_rfl) (by kernel_rfl) ?_ ?_
    · simp only [stepsAll, List.take, List.length]
      refine ⟨?_, ?_, ?_, ?_, ?_, ?_⟩
      all_goals first | trivial | (intro a wx hb hf hd)
      all_goals have hf0 : a.tmps[(0 : Nat)]?.getD undef = .pointer (some ⟨p, 0, none⟩) := (hf 0 (by decide +kernel)).trans rfl
      all_goals have hf3 : a.tmps[(3 : Nat)]?.getD undef = .int .i64 to_ := (hf 3 (by decide +kernel)).trans rfl
      all_goals have hf20 : a.tmps[(20 : Nat)]?.getD undef = .slice (some ⟨w3.heap.size, 0, none⟩) bA.size K := (hf 20 (by decide +kernel)).trans rfl
      · exact grow_tmp _ rfl ⟨hf0, fun h => by cases h⟩
      · have h114 : a.tmps[(114 : Nat)]?.getD undef = .pointer (some ⟨p, 0, none⟩) := hd 0 (by simp) (by kernel_rfl)
        refine grow_call (f := 9) (args := #[.pointer (some ⟨p, 0, none⟩)]) (by simp [execOp, h114, go_sem]) ?_
        refine (pspace p s bb l thv _ ((hb.block _ (lt_of_block HQ.out.2.1)).trans HQ.out.2.1)).mono ?_
        rintro e w3 ⟨rfl, rfl⟩
        exact ⟨_, rfl, Below.refl _ _, rfl, fun h => by cases h⟩
      · exact grow_tmp _ rfl ⟨hf3, fun h => by cases h⟩
      · exact grow_tmp _ rfl ⟨hf20, fun h => by cases h⟩
      · have h117 : a.tmps[(117 : Nat)]?.getD undef = .slice (some ⟨w3.heap.size, 0, none⟩) bA.size K := hd 3 (by simp) (by kernel_rfl)
        have qblk := HQ.out.2.2.2.2.2.2.2
        have hbk := (hb.block _ (lt_of_block qblk)).trans qblk
        have hlA : X.length = bA.size := by rw [HX.out, HB.out.2.2]
        have hrun := run_convert_bytes_back (P := Tryz.prog) wx 76 9 5 ⟨w3.heap.size, 0, none⟩ K X Tryz.underlying76 Tryz.underlying5 Tryz.underlying9 (fun j hj => by
          rw [addr0]
          have h1 : (byteCells X)[j]? = some (.int .u8 (X[j].toNat : Int)) := by simp [byteCells, List.getElem?_eq_getElem hj]
          rw [← HQ.out.2.2.2.2.2.1, List.getElem?_take_of_lt (by have := HX.out; omega)] at h1
          exact cell_l hbk j h1)
        rw [hlA] at hrun
        exact grow_value (v := .string ⟨X.toArray⟩) (by simp [execOp, Act.eval, h117, hrun]) (Below.refl _ _) ⟨rfl, fun h => by cases h⟩
    · intro fw w6 hb6 hs hn hne
      have g114 : fw 114 = .pointer (some ⟨p, 0, none⟩) := hs 0 (by simp)
      have g115 : fw 115 = .pointer (some ⟨s, 0, none⟩) := hs 1 (by simp)
      have g116 : fw 116 = .int .i64 to_ := hs 2 (by simp)
      have g117 : fw 117 = .slice (some ⟨w3.heap.size, 0, none⟩) bA.size K := hs 3 (by simp)
      have g118 : fw 118 = .string ⟨X.toArray⟩ := hs 4 (by simp)
      rw [show (List.range (List.length _)).map (dstOf _) = [114, 115, 116, 117, 118] from by kernel_rfl]
      simp only [actOf, List.foldl, Act.put, List.drop, List.length, g114, g115, g116, g117, g118, List.setIfInBounds_toArray, List.set_cons_zero, List.set_cons_succ]
      clear hs hn hne g114 g115 g116 g117 g118
      obtain ⟨qB, qp, qsp, q8, q10, _, _, qblk⟩ := HQ.out
      have tB := qB.trans (hb6.mono qB.size)
      have tsp := qsp.below hb6
      have t10 := (hb6.block _ (lt_of_block q10)).trans q10
      have HT := Lib.hid (And.intro tB (And.intro tsp t10))
      clear qB qp qsp q8 q10 qblk tB tsp t10 hb6 HQ
      go_wp2_with fail
      go_at_call 35
      refine (write_at s _ ps to_ X _ HS.out.1 HT.out.2.1 k hk2 (by rw [HX.out]; exact HS.out.2.2.2)).mono ?_
      rintro e w7 ⟨rfl, ho7, hsp7⟩
      have hbk : (ps[k]'hk1.lt).blk < w.heap.size := HS.out.2.1.lt _ (.inr (.inr ⟨_, List.getElem_mem hk1.lt, rfl⟩))
      have v10 := ho7.kept HT.out.2.2 (by omega)
      have e7 := cell_in v10 4 rfl
      have HV := Lib.hid (And.intro ho7 hsp7)
      clear v10 ho7 hsp7 e4
      go_wp2_with fail
      go_quiet (fail)
      go_wp2
      go_ret
      obtain ⟨ho7, hsp7⟩ := HV.out
      rw [HXX.out] at hsp7
      exact ⟨rfl, ((Only.of_below HT.out.1).trans ho7).drewN _, hsp7.below (below_drewN _ _)⟩
end Go.Proofs.YtkbilipgidcgeaaGreatDoor
