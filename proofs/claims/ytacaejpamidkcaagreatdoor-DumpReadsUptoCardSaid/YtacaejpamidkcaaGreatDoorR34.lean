/- digest: Sum. -/
import Derived.Test.YtacaejpamidkcaaGreatDoorR32
import Derived.Test.YtacaejpamidkcaaGreatDoorR33
set_option linter.unusedVariables false
set_option linter.unusedSimpArgs false
set_option maxRecDepth 100000
set_option maxHeartbeats 4000000
namespace Go.Proofs.YtacaejpamidkcaaGreatDoor
section
open Go.RowKit Dig
attribute [local go_sem] ak_ af_
theorem o9_ (n : Nat) (hn : n ≤ 1000000) (w : World) : (Instr.makeSlice 75 (.int .i64 n) (.int .i64 n)).run Tryz.prog w = .ok (.slice (some ⟨w.heap.size, 0, none⟩) n n) (w.alloc (.cells (byteCells (List.replicate n 0)).toArray 5)) := by
 obtain ⟨i0, hi, hz0, hz1, hz2⟩ := info_parts fj_
 have h := run_make (P := Tryz.prog) w 75 5 i0 (.int .u8 0) Tryz.underlying75 hi hz0 .i64 .i64 (n : Int) (n : Int) (by omega) (by omega) (by rw [hz2]; omega) (by omega)
 rw [h, hz1]
 have : madeCells (Value.cells (.int .u8 0)) ((n : Int).toNat * 1) = (byteCells (List.replicate n 0)).toArray := by
  rw [show Value.cells (.int .u8 0) = #[.int .u8 0] from rfl, fu_]
  simp [byteCells]
 rw [this]
 simp
theorem m0_ (t : Nat → Nat) (c : Nat → Int) (s : List UInt8) : e6_ t c s 0 = fun _ => 0 := rfl
theorem m1_ (t : Nat → Nat) (c : Nat → Int) (s : List UInt8) (k : Nat) : e6_ t c s (k + 1) = gf_ t c ((s.drop (136 * k)).take 136) (e6_ t c s k) := rfl
theorem r8_ (t : Nat → Nat) (c : Nat → Int) (s : List UInt8) : mz_ t c s = gf_ t c (lastL (s.drop (136 * (s.length / 136)))) (e6_ t c s (s.length / 136)) := rfl
def strLen : Value → Nat
 | .string s => s.size
 | _ => 0
theorem hn_ (l : List UInt8) (i : Nat) (x : UInt8) : (byteCells l).set i (.int .u8 (x.toNat : Int)) = byteCells (l.set i x) := by
 unfold byteCells
 rw [List.map_set]
theorem lu_ (l m : List UInt8) : byteCells (l ++ m) = byteCells l ++ byteCells m := by
 unfold byteCells
 rw [List.map_append]
theorem r9_ (l : List UInt8) (i : Nat) (hi : i < l.length) (f : UInt8 → UInt8) : l.modify i f = l.set i (f l[i]) := by
 apply List.ext_getElem?
 intro j
 rw [List.getElem?_modify, List.getElem?_set]
 by_cases h : i = j
 · subst h
   simp [hi]
 · simp [h]
theorem or_128 (u : UInt8) : bits .or .u8 (u.toNat : Int) 128 = ((u ||| 128).toNat : Int) := by
 have h : ((List.range 256).all fun n => bits .or .u8 ((n : Nat) : Int) 128 == ((n ||| 128 : Nat) : Int)) = true := by kernel_rfl
 have := List.all_eq_true.1 h u.toNat (List.mem_range.2 (UInt8.toNat_lt u))
 rw [UInt8.toNat_or]
 exact eq_of_beq this
theorem outB_at (a : Nat → Int) (i k : Nat) (hk : k < 8) : a i / 2 ^ (8 * k) % 256 = ((outB a (8 * i + k)).toNat : Int) := by
 have e1 : (8 * i + k) / 8 = i := by omega
 have e2 : (8 * i + k) % 8 = k := by omega
 unfold outB
 rw [e1, e2]
 generalize a i / 2 ^ (8 * k) = y
 have h1 : 0 ≤ y % 256 := by omega
 have h2 : y % 256 < 256 := by omega
 rw [UInt8.toNat_ofNat']
 omega
theorem uk_ (a : Nat → Int) (n : Nat) : (List.range n).map (outB a) ++ [outB a n] = (List.range (n + 1)).map (outB a) := by
 rw [List.range_succ, List.map_append]; rfl
attribute [local irreducible] rowF e6_ gf_ mz_ outB
theorem ssum (t : Nat → Nat) (c : Nat → Int) (l : List UInt8) (hl : l.length ≤ 140737488355328) (w : World) (hT : Tabs t c w) :
 Calls Tryz.prog 86 #[strB l] w fun e w' => e = .returned (strB (sumL t c l)) ∧ Below w.heap.size w w' := by
 unfold strB
 have hT2 := hT.two
 have HT := h1_ hT
 clear hT
 go_enter Tryz.func86, Tryz.ntmps86
 go_wp2_with fail
 refine ac_ fun V hV => ?_
 have vs : V.heap[w.heap.size]? = some (.cells (rowF 25 (e6_ t c l 0)).toArray 344 (0, 0)) := by rw [← hV, m0_, jv_]; exact heap_alloc_new _ _
 have vB : Below w.heap.size w V := by rw [← hV]; go_grown
 have HV := h2_ vs vB
 clear vs vB hV
 obtain ⟨s, hs⟩ : ∃ s, s = w.heap.size := ⟨_, rfl⟩
 rw [← hs] at HV ⊢
 have hs2 : 2 < s := by omega
 have HS0 := h1_ hs
 clear hs
 go_loopw [0] (fun v wr => ∃ k S, v = .string S ∧ S = (⟨(l.drop (136 * k)).toArray⟩ : ByteArray) ∧ 136 * k ≤ l.length ∧ Below s w wr ∧ wr.heap[s]? = some (.cells (rowF 25 (e6_ t c l k)).toArray 344 (0, 0))) (fun v _ => strLen v)
 case atStart => exact ⟨0, _, rfl, by simp, by omega, HV.out.2, HV.out.1⟩
 case round =>
  clear HV
  obtain ⟨k, S, rfl, hS, hk, hb, hblk⟩ := hrel
  have hSz : S.size = l.length - 136 * k := by rw [hS]; show (l.drop (136 * k)).toArray.size = _; simp
  have HS := h1_ hS
  have HD := h2_ hb hblk
  have lsr := lt_of_block hblk
  have HZ := h1_ hSz
  clear hS hb hblk
  by_cases hlt : 136 * (k + 1) ≤ l.length
  · have h136 : (136 : Int) ≤ (S.size : Int) := by omega
    have hn136 : 136 ≤ S.size := by omega
    clear hSz
    go_wp2_with fail
    have ht1 : Value.string (S.extract 0 136) = strB ((l.drop (136 * k)).take 136) := by rw [HS.out, ql_]; rfl
    rw [ht1]
    have hll : ((l.drop (136 * k)).take 136).length = 136 := by simp; omega
    refine (ui_ t c (e6_ t c l k) _ hll s hs2 wr (HT.out.below (HS0.out ▸ HD.out.1)) HD.out.2).mono ?_
    rintro e w1 ⟨rfl, ho1, hb1⟩
    have H1 := h2_ (HD.out.1.trans (ho1.below (B := s) (by omega) (fun k h => by omega))) hb1
    clear ho1 hb1 ht1 hll
    go_wp2
    go_roundw
    case rel =>
     refine ⟨k + 1, S.extract 136 S.size, rfl, ?_, hlt, H1.out.1, ?_⟩
     · rw [HS.out, lt_, List.drop_drop, Nat.mul_succ]
     · rw [m1_]; exact H1.out.2
    case measure => simp [strLen]; omega
  · have h136 : ¬ (136 : Int) ≤ (S.size : Int) := by omega
    have hn136 : S.size < 136 := by omega
    obtain ⟨z, hz⟩ : ∃ z : List UInt8, z = List.replicate 136 0 := ⟨_, rfl⟩
    have hm : ∀ w : World, (Instr.makeSlice 75 (.int .i64 136) (.int .i64 136)).run Tryz.prog w = .ok (.slice (some ⟨w.heap.size, 0, none⟩) 136 136) (w.alloc (.cells (byteCells z).toArray 5)) := fun w => by rw [hz]; exact o9_ 136 (by omega) w
    have HZ0 := h1_ hz
    clear hSz hz
    go_wp2_with fail
    obtain ⟨R, hR⟩ : ∃ R, R = l.drop (136 * k) := ⟨_, rfl⟩
    have hRl : R.length = S.size := by rw [hR, HZ.out, List.length_drop]
    have hSd : S.data.toList = R := by rw [HS.out, hR]
    have hzl : z.length = 136 := by rw [HZ0.out, List.length_replicate]
    have hR0 := h1_ hR
    clear hR
    generalize hX : wr.alloc (Obj.cells (byteCells z).toArray 5) = X
    have xg : X.heap[wr.heap.size]? = some (.cells (byteCells z).toArray 5 (0, 0)) := by rw [← hX]; exact heap_alloc_new _ _
    have xB : Below wr.heap.size wr X := by rw [← hX]; go_grown
    have xs := (xB.block _ lsr).trans HD.out.2
    have xw := HD.out.1.trans (xB.mono (by omega))
    generalize hg : wr.heap.size = g at *
    have nsg : s ≠ g := by omega
    clear hX xB hg
    have hc := Lib.run_copy_row_string (P := Tryz.prog) X 75 9 3 5 g 0 136 136 S (byteCells z).toArray 5 Tryz.underlying75 (by kernel_rfl) xg (by omega) (by simp [byteCells, hzl]; omega)
    have hrow : ((byteCells z).toArray.toList.take 0 ++ Lib.byteCells S.data.toList ++ (byteCells z).toArray.toList.drop (0 + S.size)) = byteCells (R ++ z.drop S.size) := by
     rw [hSd, lu_]
     simp [byteCells, Lib.byteCells]
    rw [hrow] at hc
    rw [hc]
    obtain ⟨L1, hL1⟩ : ∃ L, L = R ++ z.drop S.size := ⟨_, rfl⟩
    have hl1 : L1.length = 136 := by rw [hL1]; simp [hzl]; omega
    rw [← hL1]
    clear hrow hc
    have yg : (X.setRow g (byteCells L1).toArray).heap[g]? = some (.cells (byteCells L1).toArray 5 (0, 0)) := setRow_heap _ _ _ _ _ _ xg
    have yo : Only (· = g) X (X.setRow g (byteCells L1).toArray) := (Only.refl _ _).setRow _ _ (.inl rfl)
    have ys := yo.kept xs nsg
    have lX := lt_of_block xg
    have yw := xw.trans (yo.below (B := s) (by omega) (fun k h => by omega))
    generalize X.setRow g (byteCells L1).toArray = Y at *
    have hcell : ∀ (L : List UInt8) (i : Nat) (hi : i < L.length), (byteCells L)[i]? = some (.int .u8 ((L[i]).toNat : Int)) := by
     intro L i hi
     simp [byteCells, hi]
    have hi1 : S.size < L1.length := by rw [hl1]; exact hn136
    have y1 := ab_ yg S.size (hcell L1 S.size hi1)
    have y2 := ag_ yg S.size
    have b0 : (0 : Int) ≤ (S.size : Int) := by omega
    have b1 : (S.size : Int) < 136 := by omega
    have HY := h3_ yg ys yw
    have HL1 := h1_ hL1
    have HR := h3_ hRl hSd hzl
    have lY := lt_of_block yg
    clear xg xs xw yg ys yw yo lX hL1 hRl hSd hzl hm
    go_upto_region 8 with fail
    refine ac_ fun Y2 hY2 => ?_
    obtain ⟨L2, hL2⟩ : ∃ L, L = L1.set S.size 6 := ⟨_, rfl⟩
    have hl2 : L2.length = 136 := by rw [hL2, List.length_set]; exact hl1
    have o2 : Only (· = g) Y Y2 := by rw [← hY2]; exact (Only.refl _ _).setCell _ _ (.inl rfl)
    have yg2 : Y2.heap[g]? = some (.cells (byteCells L2).toArray 5 (0, 0)) := by
     have h1 := aj_ HY.out.1 S.size (.int .u8 6)
     rw [show (Value.int .u8 6) = .int .u8 ((6 : UInt8).toNat : Int) from rfl, hn_, ← hL2] at h1
     rw [← hY2]
     exact h1
    have ys2 := o2.kept HY.out.2.1 nsg
    have yw2 := HY.out.2.2.trans (o2.below (B := s) (by omega) (fun k h => by omega))
    have lY2 := lt_of_block yg2
    have hi2 : 135 < L2.length := by rw [hl2]; decide
    obtain ⟨u, hu⟩ : ∃ u, u = L2[135] := ⟨_, rfl⟩
    have z1 := ab_ yg2 135 (hcell L2 135 hi2)
    rw [← hu] at z1
    have z2 := ag_ yg2 135
    have hor := or_128 u
    have HU := h2_ hL2 hu
    have HY2 := h3_ yg2 ys2 yw2
    clear hY2 hL2 hu o2 yg2 ys2 yw2 y1 y2 HY
    go_upto_region 9 with fail
    refine ac_ fun Y3 hY3 => ?_
    obtain ⟨L3, hL3⟩ : ∃ L, L = L2.set 135 (u ||| 128) := ⟨_, rfl⟩
    have hl3 : L3.length = 136 := by rw [hL3, List.length_set]; exact hl2
    have o3 : Only (· = g) Y2 Y3 := by rw [← hY3]; exact (Only.refl _ _).setCell _ _ (.inl rfl)
    have yg3 : Y3.heap[g]? = some (.cells (byteCells L3).toArray 5 (0, 0)) := by
     have h1 := aj_ HY2.out.1 135 (.int .u8 ((u ||| 128).toNat : Int))
     rw [hn_, ← hL3] at h1
     rw [← hY3]
     exact h1
    have ys3 := o3.kept HY2.out.2.1 nsg
    have yw3 := HY2.out.2.2.trans (o3.below (B := s) (by omega) (fun k h => by omega))
    have lY3 := lt_of_block yg3
    have hlast : L3 = lastL R := by
     have e1 : L1.length = 136 := hl1
     have hp : R ++ List.replicate (136 - R.length) 0 = L1 := by rw [HL1.out, HZ0.out, HR.out.1, List.drop_replicate]
     unfold lastL
     rw [hp, HR.out.1, ← HU.out.1, r9_ L2 135 hi2, ← HU.out.2]
     exact hL3
    have hcv := run_convert_bytes_back (P := Tryz.prog) Y3 75 9 5 ⟨g, 0, none⟩ 136 L3 Tryz.underlying75 Tryz.underlying5 Tryz.underlying9 (fun j hj => by rw [hx_]; exact ab_ yg3 j (hcell L3 j hj))
    rw [hl3] at hcv
    have HY3 := h3_ ys3 yw3 hlast
    clear hY3 hL3 o3 yg3 ys3 yw3 hlast z1 z2 hor HY2
    go_wp2_with fail
    refine (ui_ t c (e6_ t c l k) L3 hl3 s hs2 _ (HT.out.below (HS0.out ▸ HY3.out.2.1)) HY3.out.1).mono ?_
    rintro e w1 ⟨rfl, ho1, hb1⟩
    have hst : gf_ t c L3 (e6_ t c l k) = mz_ t c l := by
     have hk2 : k = l.length / 136 := by omega
     rw [r8_, HY3.out.2.2, hR0.out, hk2]
    rw [hst] at hb1
    have lw1 := ho1.size
    have H1 := h2_ (HY3.out.2.1.trans (ho1.below (B := s) (by omega) (fun k h => by omega))) hb1
    clear ho1 hb1 hst hcv
    go_wp2_with fail
    obtain ⟨sa, hsa⟩ : ∃ a, a = mz_ t c l := ⟨_, rfl⟩
    rw [← hsa] at H1
    have HSA := h1_ hsa
    clear hsa
    refine ac_ fun W hW => ?_
    have lsb : s < w1.heap.size := by omega
    have q1 : a9_ 77 [] s w1.heap.size [] W := by rw [← hW]; exact a9_.fresh (by omega) (heap_alloc_new _ _)
    have q2 : Below w1.heap.size w1 W := by rw [← hW]; go_grown
    have q3 := at_b q2 H1.out.2
    have q4 := H1.out.1.trans (q2.mono (by omega))
    have HW := h3_ q1 q3 q4
    clear q1 q2 q3 q4 hW
    generalize hb : w1.heap.size = b at *
    have nsb : s ≠ b := by omega
    clear hb
    go_loopw [35] (fun v wr => ∃ i : Nat, v = .int .i64 i ∧ i ≤ 4 ∧ Below s w wr ∧ wr.heap[s]? = some (.cells (rowF 25 sa).toArray 344 (0, 0)) ∧ a9_ 77 [] s b ((List.range (8 * i)).map (outB sa)) wr) (fun v _ => 4 - (RowKit.intOf v).toNat)
    case atStart => exact ⟨0, rfl, by omega, HW.out.2.2, HW.out.2.1, HW.out.1⟩
    case round =>
     clear HW
     obtain ⟨i, rfl, hi, hb, hblk, hbld⟩ := hrel
     have i0 : (0 : Int) ≤ (i : Int) := by omega
     by_cases hil : i < 4
     · have i4 : (i : Int) < 4 := by omega
       have hx := ab_ hblk i (ci_ 25 sa i (by omega))
       have HD := h3_ hb hblk hbld
       clear hb hblk hbld
       go_wp2_with fail
       go_loopw [39] (fun v wr => ∃ k : Nat, v = .int .i64 k ∧ k ≤ 8 ∧ Below s w wr ∧ wr.heap[s]? = some (.cells (rowF 25 sa).toArray 344 (0, 0)) ∧ a9_ 77 [] s b ((List.range (8 * i + k)).map (outB sa)) wr) (fun v _ => 8 - (RowKit.intOf v).toNat)
       case atStart => exact ⟨0, rfl, by omega, HD.out.1, HD.out.2.1, HD.out.2.2⟩
       case round =>
        clear HD hx
        obtain ⟨k, rfl, hk, hb, hblk, hbld⟩ := hrel
        have HD := h3_ hb hblk hbld
        have lb := hbld.lt
        clear hb hblk hbld
        by_cases hkl : k < 8
        · have k8 : (k : Int) < 8 := by omega
          have w8 : IntKind.i64.wrap (8 * (k : Int)) = 8 * (k : Int) := IntWalk.i64_in _ (by omega)
          have n0 : ¬ (8 * (k : Int)) < 0 := by omega
          have n8 : (8 * (k : Int)).toNat = 8 * k := by omega
          have nm : min (8 * k) 64 = 8 * k := by omega
          have hv := outB_at sa i k hkl
          go_wp2_with fail
          refine (bbyte 77 [] c6_ s b _ (outB sa (8 * i + k)) _ HD.out.2.2 (by simp; omega) (by omega)).mono ?_
          rintro e w2 ⟨rfl, hb2, hbe, hkn⟩
          have hst := hkn.at_ HD.out.2.1 nsb (by decide)
          have hb3 := hb2.is
          rw [uk_] at hb3
          have H2 := h3_ (HD.out.1.trans hbe) hst hb3
          clear hb2 hbe hkn hst hb3
          go_wp2
          go_roundw
          case rel => exact ⟨k + 1, rfl, by omega, H2.out.1, H2.out.2.1, H2.out.2.2⟩
          case measure => simp [RowKit.intOf]; omega
        · have e8 : k = 8 := by omega
          have h8 := HD.out.2.2
          rw [e8, show 8 * i + 8 = 8 * (i + 1) by omega] at h8
          have HD := h3_ HD.out.1 HD.out.2.1 h8
          clear h8 e8
          have k8 : ¬ (k : Int) < 8 := by omega
          go_wp2
          go_roundw
          case rel => exact ⟨i + 1, rfl, by omega, HD.out.1, HD.out.2.1, HD.out.2.2⟩
          case measure => simp [RowKit.intOf]; omega
     · have e4 : i = 4 := by omega
       have i4 : ¬ (i : Int) < 4 := by omega
       obtain ⟨bl, hbl⟩ : ∃ x, x = (List.range (8 * 4)).map (outB sa) := ⟨_, rfl⟩
       rw [e4, ← hbl] at hbld
       have hne : bl ≠ [] := by rw [hbl]; intro h; have := congrArg List.length h; simp at this
       have HBL := h1_ hbl
       have HD := h3_ hb hblk hbld
       clear hb hblk hbld e4 hbl
       go_wp2_with fail
       refine (o4_ 77 [] c6_ s b _ _ HD.out.2.2 hne).mono ?_
       rintro e w2 ⟨rfl, hbe⟩
       have H2 := h1_ (HD.out.1.trans hbe)
       clear hbe
       go_wp2
       go_ret
       refine ⟨?_, HS0.out ▸ H2.out⟩
       unfold sumL
       rw [← HSA.out]
       show _ = Ending.returned (strB ((List.range (8 * 4)).map (outB sa)))
       rw [← HBL.out]
       rfl
end
end Go.Proofs.YtacaejpamidkcaaGreatDoor
