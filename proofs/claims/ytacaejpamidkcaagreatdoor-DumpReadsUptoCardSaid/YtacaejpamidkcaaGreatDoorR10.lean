/- word.Put of four bytes. word.Get of four signed bytes and of eight. isa: Decode, Encode. Maps of at most one entry, as concrete blocks: looked up, written, ranged over. No program in sight. -/
import Derived.Test.YtacaejpamidkcaaGreatDoorR09
set_option linter.unusedVariables false
set_option linter.unusedSimpArgs false
set_option maxRecDepth 100000
set_option maxHeartbeats 4000000
namespace Go.Proofs.YtacaejpamidkcaaGreatDoor
section
open Go.RowKit
attribute [local go_sem] ak_ af_
def b1_ (n : Int) : List UInt8 := (List.range 4).map fun i => UInt8.ofNat ((n / 2 ^ (8 * i)) % 256).toNat
theorem re_ (n : Int) (k : Nat) (hk : k < 4) : (b1_ n)[k]? = some (UInt8.ofNat ((n / 2 ^ (8 * k)) % 256).toNat) := by
 simp [b1_, hk]
theorem tb_ (x : List UInt8) (n : Int) (k : Nat) (l : List Value) (hk : k < 4) (hx : 8 ≤ x.length) (h : l.take x.length = byteCells (putL x 4 ((b1_ n).take k))) :
 (l.set ((4 : Int).toNat + k) (.int .u8 (n / 2 ^ (8 * k) % 256))).take x.length = byteCells (putL x 4 ((b1_ n).take (k + 1))) := by
 have h4 : (4 : Int).toNat = 4 := rfl
 have hl : (b1_ n).length = 4 := by simp [b1_]
 rw [h4, List.take_set, h]
 have hb : (.int .u8 (n / 2 ^ (8 * k) % 256) : Value) = .int .u8 ((UInt8.ofNat ((n / 2 ^ (8 * k)) % 256).toNat).toNat : Int) := by
  have h1 := Int.emod_nonneg (n / 2 ^ (8 * k)) (show (256 : Int) ≠ 0 by decide)
  have h2 := Int.emod_lt_of_pos (n / 2 ^ (8 * k)) (show (0 : Int) < 256 by decide)
  congr 1
  simp [UInt8.toNat_ofNat']
  omega
 rw [hb]
 have h3 : (b1_ n).take (k + 1) = (b1_ n).take k ++ [UInt8.ofNat ((n / 2 ^ (8 * k)) % 256).toNat] := by
  rw [List.take_add_one, re_ n k hk]; rfl
 generalize UInt8.ofNat ((n / 2 ^ (8 * k)) % 256).toNat = u at *
 rw [h3]
 have e1 : (byteCells (putL x 4 ((b1_ n).take k))).set (4 + k) (.int .u8 (u.toNat : Int)) = byteCells ((putL x 4 ((b1_ n).take k)).set (4 + k) u) := by
  simp [byteCells, List.map_set]
 rw [e1]
 congr 1
 unfold putL
 have hlk : ((b1_ n).take k).length = k := by simp [hl]; omega
 rw [hlk, List.length_append, hlk]
 simp only [List.length_singleton]
 have h5 : (x.take 4 ++ (b1_ n).take k).length = 4 + k := by simp [hl]; omega
 rw [List.set_append_right _ _ (by omega), h5, Nat.sub_self]
 have h6 : x.drop (4 + k) = x[4 + k]'(by omega) :: x.drop (4 + k + 1) := List.drop_eq_getElem_cons (by omega)
 rw [h6, List.set_cons_zero]
 simp [Nat.add_assoc]
theorem wf_ (x : List UInt8) (n : Int) (w : World) (hx : 8 ≤ x.length) (hl : x.length ≤ 100000) (h1 : -2147483648 ≤ n) (h2 : n ≤ 2147483647) (hn : 0 ≤ n) :
 Calls Tryz.prog 55 #[.string ⟨x.toArray⟩, .int .i64 4, .int .i64 4, .int .i64 n] w fun e w' =>
  Below w.heap.size w w' ∧ e = .returned (.tuple #[.string ⟨(putL x 4 ((b1_ n))).toArray⟩, .bool true]) := by
 have hsz : (⟨x.toArray⟩ : ByteArray).size = x.length := by simp [ByteArray.size]
 have HS := h1_ hsz
 clear hsz
 have hcv := fun (w : World) (s : ByteArray) => run_bytes_of_string (P := Tryz.prog) w 9 75 5 s Tryz.underlying9 Tryz.underlying75 Tryz.underlying5
 go_enter Tryz.func55, Tryz.ntmps55
 go_wp2_with (first
  | (go_at_call 100; refine (hf_ ⟨x.toArray⟩ 4 4 _ (by omega) (by omega) (by rw [HS.out]; omega) (by rw [HS.out]; omega)).mono ?_; rintro e w1 ⟨rfl, hb1⟩; have hsz1 := kq_ hb1; have hb01 := aw_ (((Below.refl _ _).alloc (Nat.le_refl _) _).alloc (by simp) _) hb1; have ba := (hb1.block w.heap.size (by simp; omega)).trans (ae_ (heap_alloc_new w _)); have bn := (hb1.block (w.heap.size + 1) (by simp)).trans (heap_alloc2_new w _ _); have ca := ab_ ba 0 rfl; have cn := ab_ bn 0 rfl; have HB1 := h3_ hb01 ba bn; clear hb1 hb01 ba bn)
  | (go_at_call 101; refine (fits_u _ _ h1 h2).mono ?_; rintro e w2 ⟨rfl, hb2⟩; have hsz2 := hb2.size; have ca2 := (hb2.cell (p := ⟨w.heap.size, 0, none⟩) hsz1.1).trans ca; have cn2 := (hb2.cell (p := ⟨w.heap.size + 1, 0, none⟩) hsz1.2).trans cn; have HB2 := h1_ hb2; clear hb2))
 obtain ⟨K, hK⟩ : ∃ K, K = grownCap w2 x.length 0 5 := ⟨_, rfl⟩
 have hK2 : x.length ≤ K := by rw [hK]; exact grownCap_ge _ _ _ _
 rw [← hK]
 obtain ⟨C, hC⟩ : ∃ C, C = bytesRow ⟨x.toArray⟩ K := ⟨_, rfl⟩
 rw [← hC]
 have hCl : C.toList = byteCells x ++ List.replicate (K - x.length) (.int .u8 0) := by
  rw [hC]; simp [bytesRow, byteCells, HS.out]
 have hCs : x.length ≤ C.size := by rw [← Array.length_toList, hCl]; simp [bo_]
 refine ac_ fun W hW => ?_
 have hbW : Below w2.heap.size w2 W := by rw [← hW]; exact (((Below.refl _ _).alloc (Nat.le_refl _) _).alloc (by simp) _).drew
 have hB0 : W.heap[w2.heap.size]? = some (.cells C.toList.toArray 5 (C.size, C.size + 1)) := by rw [← hW]; exact az_ (ae_ (heap_alloc_new w2 _))
 have hB1 : W.heap[w2.heap.size + 1]? = some (.cells #[.slice (some ⟨w2.heap.size, 0, none⟩) x.length K] 75 (0, 0)) := by rw [← hW]; exact az_ (heap_alloc2_new w2 _ _)
 have e0 : W.cell? ⟨w.heap.size, 0, none⟩ = some (.int .i64 4) := (hbW.cell (p := ⟨w.heap.size, 0, none⟩) (show w.heap.size < w2.heap.size by omega)).trans ca2
 have e1 : W.cell? ⟨w.heap.size + 1, 0, none⟩ = some (.int .i64 n) := (hbW.cell (p := ⟨w.heap.size + 1, 0, none⟩) (show w.heap.size + 1 < w2.heap.size by omega)).trans cn2
 have e2 := ab_ hB1 0 rfl
 have hsW := hbW.size
 have hlB := lt_of_block hB1
 have hBW : Below w.heap.size w W := HB1.out.1.trans ((HB2.out.mono HB1.out.1.size).trans (hbW.mono (by omega)))
 have HW := h6_ hB0 hCl hBW e0 e1 e2
 clear hB0 hB1 hCl hBW e0 e1 e2 hbW hC hK hW ca cn ca2 cn2
 go_loopw [36] (fun i wr => ∃ (k : Nat) (l : List Value), k ≤ 4 ∧ i = .int .i64 k ∧ Only (· = w2.heap.size) W wr ∧ l.length = C.size ∧ l.take x.length = byteCells (putL x 4 ((b1_ n).take k)) ∧
  wr.heap[w2.heap.size]? = some (.cells l.toArray 5 (C.size, C.size + 1))) (fun i _ => 4 - (RowKit.intOf i).toNat)
 case atStart =>
  refine ⟨0, C.toList, by omega, rfl, Only.refl _ _, by simp, ?_, HW.out.1⟩
  rw [HW.out.2.1, List.take_append_of_le_length (by simp [bo_]), List.take_of_length_le (by simp [bo_])]
  simp [putL]
 case round =>
  obtain ⟨k, l, hk, rfl, ho, hlen, htk, hblk⟩ := hrel
  obtain ⟨_, _, hBW, e0, e1, e2⟩ := HW.out
  have f0 := (ho.cell (b := w.heap.size) (i := 0) (by omega) (by omega)).trans e0
  have f1 := (ho.cell (b := w.heap.size + 1) (i := 0) (by omega) (by omega)).trans e1
  have f2 := (ho.cell (b := w2.heap.size + 1) (i := 0) hlB (by omega)).trans e2
  have HH := h4_ ho hlen htk hblk
  clear ho hlen htk hblk e0 e1 e2 hBW
  by_cases hlt : k < 4
  · go_wp2_with (go_at_call 102; refine (put1 (w.heap.size + 1) (w2.heap.size + 1) w.heap.size w2.heap.size C.size n 4 k x.length K l _ f1 f2 f0 HH.out.2.2.2 (by omega) (by omega) (by rw [HH.out.2.1]; exact hCs) hCs (by omega) (by omega)).mono ?_; rintro e w4 ⟨rfl, ho4, hb4⟩; have H4 := h2_ ho4 hb4; clear ho4 hb4)
    go_roundw
    case rel =>
     obtain ⟨ho, hlen, htk, hblk⟩ := HH.out
     obtain ⟨ho4, hb4⟩ := H4.out
     refine ⟨k + 1, _, by omega, by go_num, ho.trans ho4, by simpa using hlen, ?_, hb4⟩
     exact tb_ x n k l hlt hx htk
    case measure => simp [RowKit.intOf]; omega
  · obtain rfl : k = 4 := by omega
    go_wp2
    have hlx : (putL x 4 (b1_ n)).length = x.length := gb_ _ _ _ (by simp [b1_]; omega)
    have ht : (b1_ n).take 4 = b1_ n := by rw [List.take_of_length_le]; simp [b1_]
    rw [show x.length = (putL x 4 (b1_ n)).length from hlx.symm, run_convert_bytes_back _ 75 9 5 ⟨w2.heap.size, 0, none⟩ _ (putL x 4 (b1_ n)) Tryz.underlying75 Tryz.underlying5 Tryz.underlying9 ?hc]
    case hc =>
     intro j hj
     rw [hx_]
     obtain ⟨ho, hlen, htk, hblk⟩ := HH.out
     rw [ht] at htk
     have h1 : (byteCells (putL x 4 (b1_ n)))[j]? = some (.int .u8 ((putL x 4 (b1_ n))[j].toNat : Int)) := by simp [byteCells, List.getElem?_eq_getElem hj]
     rw [← htk, List.getElem?_take_of_lt (by omega)] at h1
     exact ab_ hblk j h1
    clear hlx ht
    go_wp2
    go_ret2
    refine ⟨?_, rfl⟩
    have hBW := HW.out.2.2.1
    exact hBW.trans (HH.out.1.below (by omega) (fun k hk => by subst hk; omega))
theorem wg_ (x : List UInt8) (n : Int) (w : World) (hx : 8 ≤ x.length) (hl : x.length ≤ 100000) (h1 : -2147483648 ≤ n) (h2 : n ≤ 2147483647) (hn : ¬ 0 ≤ n) :
 Calls Tryz.prog 55 #[.string ⟨x.toArray⟩, .int .i64 4, .int .i64 4, .int .i64 n] w fun e w' =>
  Below w.heap.size w w' ∧ e = .returned (.tuple #[.string ⟨(putL x 4 ((b1_ n))).toArray⟩, .bool true]) := by
 have hsz : (⟨x.toArray⟩ : ByteArray).size = x.length := by simp [ByteArray.size]
 have HS := h1_ hsz
 clear hsz
 have hcv := fun (w : World) (s : ByteArray) => run_bytes_of_string (P := Tryz.prog) w 9 75 5 s Tryz.underlying9 Tryz.underlying75 Tryz.underlying5
 have hn' : decide (0 ≤ n) = false := by simpa using hn
 go_enter Tryz.func55, Tryz.ntmps55
 go_wp2_with (go_at_call 100; refine (hf_ ⟨x.toArray⟩ 4 4 _ (by omega) (by omega) (by rw [HS.out]; omega) (by rw [HS.out]; omega)).mono ?_; rintro e w1 ⟨rfl, hb1⟩; have hsz1 := kq_ hb1; have hb01 := aw_ (((Below.refl _ _).alloc (Nat.le_refl _) _).alloc (by simp) _) hb1; have ba := (hb1.block w.heap.size (by simp; omega)).trans (ae_ (heap_alloc_new w _)); have bn := (hb1.block (w.heap.size + 1) (by simp)).trans (heap_alloc2_new w _ _); have ca := ab_ ba 0 rfl; have cn := ab_ bn 0 rfl; have HB1 := h3_ hb01 ba bn; clear hb1 hb01 ba bn)
 go_at_call 101
 refine (fits_u n _ h1 h2).mono ?_
 rintro e wq ⟨rfl, hbq⟩
 rw [hn']
 have hszq := hbq.size
 have caq := (hbq.cell (p := ⟨w.heap.size, 0, none⟩) hsz1.1).trans ca
 have cnq := (hbq.cell (p := ⟨w.heap.size + 1, 0, none⟩) hsz1.2).trans cn
 have HBQ := h1_ hbq
 clear hbq ca cn
 go_wp2_with fail
 go_at_call 101
 refine (fits_s n _ h1 h2).mono ?_
 rintro e w2 ⟨rfl, hb2⟩
 have hsz2' := hb2.size
 have hsz2 : w1.heap.size ≤ w2.heap.size := by omega
 have ca2 := (hb2.cell (p := ⟨w.heap.size, 0, none⟩) (show w.heap.size < wq.heap.size by omega)).trans caq
 have cn2 := (hb2.cell (p := ⟨w.heap.size + 1, 0, none⟩) (show w.heap.size + 1 < wq.heap.size by omega)).trans cnq
 have HB2 := h1_ (HBQ.out.trans (hb2.mono hszq))
 clear hb2 caq cnq
 go_wp2
 obtain ⟨K, hK⟩ : ∃ K, K = grownCap w2 x.length 0 5 := ⟨_, rfl⟩
 have hK2 : x.length ≤ K := by rw [hK]; exact grownCap_ge _ _ _ _
 rw [← hK]
 obtain ⟨C, hC⟩ : ∃ C, C = bytesRow ⟨x.toArray⟩ K := ⟨_, rfl⟩
 rw [← hC]
 have hCl : C.toList = byteCells x ++ List.replicate (K - x.length) (.int .u8 0) := by
  rw [hC]; simp [bytesRow, byteCells, HS.out]
 have hCs : x.length ≤ C.size := by rw [← Array.length_toList, hCl]; simp [bo_]
 refine ac_ fun W hW => ?_
 have hbW : Below w2.heap.size w2 W := by rw [← hW]; exact (((Below.refl _ _).alloc (Nat.le_refl _) _).alloc (by simp) _).drew
 have hB0 : W.heap[w2.heap.size]? = some (.cells C.toList.toArray 5 (C.size, C.size + 1)) := by rw [← hW]; exact az_ (ae_ (heap_alloc_new w2 _))
 have hB1 : W.heap[w2.heap.size + 1]? = some (.cells #[.slice (some ⟨w2.heap.size, 0, none⟩) x.length K] 75 (0, 0)) := by rw [← hW]; exact az_ (heap_alloc2_new w2 _ _)
 have e0 : W.cell? ⟨w.heap.size, 0, none⟩ = some (.int .i64 4) := (hbW.cell (p := ⟨w.heap.size, 0, none⟩) (show w.heap.size < w2.heap.size by omega)).trans ca2
 have e1 : W.cell? ⟨w.heap.size + 1, 0, none⟩ = some (.int .i64 n) := (hbW.cell (p := ⟨w.heap.size + 1, 0, none⟩) (show w.heap.size + 1 < w2.heap.size by omega)).trans cn2
 have e2 := ab_ hB1 0 rfl
 have hsW := hbW.size
 have hlB := lt_of_block hB1
 have hBW : Below w.heap.size w W := HB1.out.1.trans ((HB2.out.mono HB1.out.1.size).trans (hbW.mono (by omega)))
 have HW := h6_ hB0 hCl hBW e0 e1 e2
 clear hB0 hB1 hCl hBW e0 e1 e2 hbW hC hK hW ca2 cn2
 go_loopw [36] (fun i wr => ∃ (k : Nat) (l : List Value), k ≤ 4 ∧ i = .int .i64 k ∧ Only (· = w2.heap.size) W wr ∧ l.length = C.size ∧ l.take x.length = byteCells (putL x 4 ((b1_ n).take k)) ∧
  wr.heap[w2.heap.size]? = some (.cells l.toArray 5 (C.size, C.size + 1))) (fun i _ => 4 - (RowKit.intOf i).toNat)
 case atStart =>
  refine ⟨0, C.toList, by omega, rfl, Only.refl _ _, by simp, ?_, HW.out.1⟩
  rw [HW.out.2.1, List.take_append_of_le_length (by simp [bo_]), List.take_of_length_le (by simp [bo_])]
  simp [putL]
 case round =>
  obtain ⟨k, l, hk, rfl, ho, hlen, htk, hblk⟩ := hrel
  obtain ⟨_, _, hBW, e0, e1, e2⟩ := HW.out
  have f0 := (ho.cell (b := w.heap.size) (i := 0) (by omega) (by omega)).trans e0
  have f1 := (ho.cell (b := w.heap.size + 1) (i := 0) (by omega) (by omega)).trans e1
  have f2 := (ho.cell (b := w2.heap.size + 1) (i := 0) hlB (by omega)).trans e2
  have HH := h4_ ho hlen htk hblk
  clear ho hlen htk hblk e0 e1 e2 hBW
  by_cases hlt : k < 4
  · go_wp2_with (go_at_call 102; refine (put1 (w.heap.size + 1) (w2.heap.size + 1) w.heap.size w2.heap.size C.size n 4 k x.length K l _ f1 f2 f0 HH.out.2.2.2 (by omega) (by omega) (by rw [HH.out.2.1]; exact hCs) hCs (by omega) (by omega)).mono ?_; rintro e w4 ⟨rfl, ho4, hb4⟩; have H4 := h2_ ho4 hb4; clear ho4 hb4)
    go_roundw
    case rel =>
     obtain ⟨ho, hlen, htk, hblk⟩ := HH.out
     obtain ⟨ho4, hb4⟩ := H4.out
     refine ⟨k + 1, _, by omega, by go_num, ho.trans ho4, by simpa using hlen, ?_, hb4⟩
     exact tb_ x n k l hlt hx htk
    case measure => simp [RowKit.intOf]; omega
  · obtain rfl : k = 4 := by omega
    go_wp2
    have hlx : (putL x 4 (b1_ n)).length = x.length := gb_ _ _ _ (by simp [b1_]; omega)
    have ht : (b1_ n).take 4 = b1_ n := by rw [List.take_of_length_le]; simp [b1_]
    rw [show x.length = (putL x 4 (b1_ n)).length from hlx.symm, run_convert_bytes_back _ 75 9 5 ⟨w2.heap.size, 0, none⟩ _ (putL x 4 (b1_ n)) Tryz.underlying75 Tryz.underlying5 Tryz.underlying9 ?hc]
    case hc =>
     intro j hj
     rw [hx_]
     obtain ⟨ho, hlen, htk, hblk⟩ := HH.out
     rw [ht] at htk
     have h1 : (byteCells (putL x 4 (b1_ n)))[j]? = some (.int .u8 ((putL x 4 (b1_ n))[j].toNat : Int)) := by simp [byteCells, List.getElem?_eq_getElem hj]
     rw [← htk, List.getElem?_take_of_lt (by omega)] at h1
     exact ab_ hblk j h1
    clear hlx ht
    go_wp2
    go_ret2
    refine ⟨?_, rfl⟩
    have hBW := HW.out.2.2.1
    exact hBW.trans (HH.out.1.below (by omega) (fun k hk => by subst hk; omega))
theorem put4 (x : List UInt8) (n : Int) (w : World) (hx : 8 ≤ x.length) (hl : x.length ≤ 100000) (h1 : -2147483648 ≤ n) (h2 : n ≤ 2147483647) :
 Calls Tryz.prog 55 #[.string ⟨x.toArray⟩, .int .i64 4, .int .i64 4, .int .i64 n] w fun e w' =>
  Below w.heap.size w w' ∧ e = .returned (.tuple #[.string ⟨(putL x 4 ((b1_ n))).toArray⟩, .bool true]) := by
 by_cases hn : 0 ≤ n
 · exact wf_ x n w hx hl h1 h2 hn
 · exact wg_ x n w hx hl h1 h2 hn
end
section
open Go.RowKit
attribute [local go_sem] ak_ af_
theorem p7_ (n b k : Nat) (hk : k < 8) (hn : n < 256 ^ k) (hb : b < 256) : bits .or .u64 (n : Int) (IntKind.u64.wrap (IntKind.u64.wrap (b : Int) * 2 ^ (8 * k))) = ((n + b * 256 ^ k : Nat) : Int) := by
 have e1 : IntKind.u64.wrap (b : Int) = (b : Int) := by rw [IntKind.wrap_u64]; omega
 have e3 : (256 : Nat) ^ k = 2 ^ (8 * k) := by rw [Nat.pow_mul]
 have hp : 256 ^ k * 256 ≤ 256 ^ 8 := by rw [← Nat.pow_succ]; exact Nat.pow_le_pow_right (by omega) (by omega)
 have h8 : (256 : Nat) ^ 8 = 18446744073709551616 := by decide
 have hlt : b * 256 ^ k < 18446744073709551616 := by
  have : b * 256 ^ k ≤ 255 * 256 ^ k := Nat.mul_le_mul_right _ (by omega)
  have hpos : 0 < 256 ^ k := Nat.pow_pos (by omega)
  omega
 have hnlt : n < 18446744073709551616 := by
  have hpos : 0 < 256 ^ k := Nat.pow_pos (by omega)
  omega
 have e2 : IntKind.u64.wrap ((b : Int) * 2 ^ (8 * k)) = ((b * 256 ^ k : Nat) : Int) := by
  rw [IntKind.wrap_u64, e3]
  have : (b : Int) * 2 ^ (8 * k) = ((b * 2 ^ (8 * k) : Nat) : Int) := by push_cast; rfl
  rw [this]
  rw [e3] at hlt
  omega
 rw [e1, e2, u64_or_nat _ _ hnlt hlt, or_join n b k hk hn hb]
theorem get4 (x : List UInt8) (w : World) (hx : x.length = 8) :
 Calls Tryz.prog 334 #[.string ⟨x.toArray⟩, .int .i64 4, .int .i64 4, .bool true] w fun e w' =>
  Below w.heap.size w w' ∧ e = .returned (.tuple #[.int .i64 (or_ (leN (x.drop 4))), .bool true]) := by
 have hsz : (⟨x.toArray⟩ : ByteArray).size = 8 := by simp [ByteArray.size, hx]
 have HS := h1_ hsz
 have HX := h1_ hx
 clear hsz hx
 go_enter Tryz.func334, Tryz.ntmps334
 go_wp2_with (go_at_call 100; refine (hf_ ⟨x.toArray⟩ 4 4 _ (by omega) (by omega) (by rw [HS.out]; omega) (by rw [HS.out]; omega)).mono ?_; rintro e w1 ⟨rfl, hb1⟩; have HB := h1_ hb1; clear hb1)
 go_loop [10, 19] (fun n i => ∃ k : Nat, k ≤ 4 ∧ i = .int .i64 k ∧ n = .int .u64 (leN ((x.drop 4).take k) : Nat)) (fun _ i => 4 - (RowKit.intOf i).toNat)
 case atStart => exact ⟨0, by omega, rfl, rfl⟩
 case round =>
  obtain ⟨k, hk, rfl, rfl⟩ := hrel
  by_cases hlt : k < 4
  · have hb1 : (0 : Int) ≤ 4 + (k : Int) := by omega
    have hb2 : 4 + (k : Int) < (x.length : Int) := by rw [HX.out]; omega
    go_wp2
    go_round
    case rel =>
     refine ⟨k + 1, by omega, by go_num, ?_⟩
     have hl : k < (x.drop 4).length := by rw [List.length_drop, HX.out]; omega
     rw [p6_ _ k hl, p7_ _ _ k (by omega) (jd_ _ k (by omega)) (UInt8.toNat_lt _)]
     all_goals (congr 4 <;> first | rfl | (simp; done) | (simp; rfl))
    case measure => simp [RowKit.intOf]; omega
  · obtain rfl : k = 4 := by omega
    go_wp2
    go_ret2
    refine ⟨HB.out, ?_⟩
    have ht : (x.drop 4).take 4 = x.drop 4 := List.take_of_length_le (by rw [List.length_drop, HX.out]; omega)
    have hn := s8_ (x.drop 4)
    rw [show (x.drop 4).length = 4 from by rw [List.length_drop, HX.out]] at hn
    rw [ht]
    generalize leN (x.drop 4) = n at *
    have h8 : (256 : Nat) ^ 4 = 4294967296 := by decide
    rw [h8] at hn
    have e2 : wrap64 (IntKind.u64.wrap ((n : Int) * 4294967296)) / 4294967296 = or_ n := by
     rw [IntKind.wrap_u64]; unfold wrap64 or_; split <;> omega
    show Ending.returned (.tuple #[.int .i64 (wrap64 (IntKind.u64.wrap ((n : Int) * 4294967296)) / 4294967296), .bool true]) = _
    rw [e2]
end
section
open Go.RowKit
attribute [local go_sem] ak_ af_
def opF (n : Nat) : ByteArray :=
 match n with
 | 3 | 4 | 14 | 20 | 21 => ⟨#[65, 73]⟩
 | 5 | 29 => ⟨#[65, 66]⟩
 | 6 | 7 | 8 | 9 | 10 | 11 | 12 => ⟨#[65, 66, 67]⟩
 | 13 | 15 | 16 | 17 | 18 => ⟨#[65, 66, 73]⟩
 | 19 | 22 | 24 | 25 | 30 => ⟨#[73]⟩
 | 23 | 27 | 28 => ⟨#[65]⟩
 | _ => ⟨#[]⟩
structure Forms (w : World) : Prop where
 pos : 0 < w.heap.size
 get : ∀ op : Nat, op < 31 → w.cell? ⟨0, op * 4 + 1, none⟩ = some (.string (opF op))
theorem Forms.below {w w' : World} (h : Forms w) (hb : Below w.heap.size w w') : Forms w' :=
 ⟨Nat.lt_of_lt_of_le h.pos hb.size, fun op ho => (hb.cell (p := ⟨0, op * 4 + 1, none⟩) h.pos).trans (h.get op ho)⟩
theorem Forms.only {S : Nat → Prop} {w w' : World} (h : Forms w) (ho : Only S w w') (hs : ¬ S 0) : Forms w' :=
 ⟨Nat.lt_of_lt_of_le h.pos ho.size, fun op hop => (ho.cell h.pos hs).trans (h.get op hop)⟩
theorem q_of (x : UInt8) : wrap64 (x.toNat : Int) = x.toNat := by have := x.toNat_lt; unfold wrap64; omega
theorem q_0 (x0 x1 x2 x3 x4 x5 x6 x7 : UInt8) : wrap64 (((⟨#[x0, x1, x2, x3, x4, x5, x6, x7]⟩ : ByteArray)[0]'(show 0 < 8 by decide)).toNat : Int) = x0.toNat := q_of x0
theorem q_1 (x0 x1 x2 x3 x4 x5 x6 x7 : UInt8) : wrap64 (((⟨#[x0, x1, x2, x3, x4, x5, x6, x7]⟩ : ByteArray)[1]'(show 1 < 8 by decide)).toNat : Int) = x1.toNat := q_of x1
theorem q_2 (x0 x1 x2 x3 x4 x5 x6 x7 : UInt8) : wrap64 (((⟨#[x0, x1, x2, x3, x4, x5, x6, x7]⟩ : ByteArray)[2]'(show 2 < 8 by decide)).toNat : Int) = x2.toNat := q_of x2
theorem q_3 (x0 x1 x2 x3 x4 x5 x6 x7 : UInt8) : wrap64 (((⟨#[x0, x1, x2, x3, x4, x5, x6, x7]⟩ : ByteArray)[3]'(show 3 < 8 by decide)).toNat : Int) = x3.toNat := q_of x3
def encL (op a b c imm : Int) : List UInt8 := putL [UInt8.ofNat op.toNat, UInt8.ofNat a.toNat, UInt8.ofNat b.toNat, UInt8.ofNat c.toNat, 0, 0, 0, 0] 4 (b1_ imm)
theorem kx_ {W : World} {g : Nat} {l : List UInt8} {t : TypeId} {fr : Nat × Nat} (hB : W.heap[g]? = some (.cells (byteCells l).toArray t fr)) (j : Nat) (hj : j < l.length) : W.cell? ⟨g, j, none⟩ = some (.int .u8 (l[j].toNat : Int)) :=
 ab_ hB j (by simp [byteCells, List.getElem?_eq_getElem hj])
theorem ft_ (n : Int) (h0 : 0 ≤ n) (h1 : n < 256) : ((UInt8.ofNat n.toNat).toNat : Int) = n := by
 simp [UInt8.toNat_ofNat']
 omega
end
section
open Go.RowKit Go.MapKept Go.ChangeMaps
theorem lk_ (w : World) (b : Nat) (o : Obj) : (setBlock w b o).heap.size = w.heap.size := by simp [setBlock]
theorem e9_ {w : World} {b : Nat} (h : b < w.heap.size) (o : Obj) : (setBlock w b o).heap[b]? = some o := by simp [setBlock, h]
theorem bv_ (w : World) {b i : Nat} (o : Obj) (h : i ≠ b) : (setBlock w b o).heap[i]? = w.heap[i]? := by simp [setBlock, Ne.symm h]
section
variable {P : Program} {w : World} {t k e : TypeId} {b c : Nat} {z key val v : Value} {d : TypeDesc} {es : Array MapEntry}
theorem iu_ (ok : Bool) (ht : P.underlying t = some (.map k e)) (hb : w.heap[b]? = some (.map es c)) (hk : P.underlying k = some d) (hkey : IsKey d key) (hz : (zeroValue e).run P w = .ok z w)
 (hf : Instr.findNow d key es.toList 0 = some none) :
 (Instr.lookup t (.map (some b)) key ok).run P w = .ok (if ok then .tuple #[z, .bool false] else z) w := by
 have h1 := run_checkKey (P := P) (w := w) hk hkey es.isEmpty 9999
 have h2 := MapKept.run_findKey (P := P) (w := w) hk hf
 simp [Instr.lookup, run_underlying ht, MapKept.run_getObj_map hb, h1, h2, hz, Result.andThen]
theorem tc_ (ok : Bool) (i : Nat) (ht : P.underlying t = some (.map k e)) (hb : w.heap[b]? = some (.map es c)) (hk : P.underlying k = some d) (hkey : IsKey d key)
 (hf : Instr.findNow d key es.toList 0 = some (some (i, v))) :
 (Instr.lookup t (.map (some b)) key ok).run P w = .ok (if ok then .tuple #[v, .bool true] else v) w := by
 have h1 := run_checkKey (P := P) (w := w) hk hkey es.isEmpty 9999
 have h2 := MapKept.run_findKey (P := P) (w := w) hk hf
 simp [Instr.lookup, run_underlying ht, MapKept.run_getObj_map hb, h1, h2, Result.andThen]
theorem kg_ (ok : Bool) (ht : P.underlying t = some (.map k e)) (hb : w.heap[b]? = some (.map #[] c)) (hck : (Instr.checkKey true 10000 k key).run P w = .ok () w) (hk : P.underlying k = some d) (hz : (zeroValue e).run P w = .ok z w) :
 (Instr.lookup t (.map (some b)) key ok).run P w = .ok (if ok then .tuple #[z, .bool false] else z) w := by
 simp [Instr.lookup, run_underlying ht, MapKept.run_getObj_map hb, hck, Instr.findKey, run_underlying hk, Instr.findNow, hz, Result.andThen]
theorem g7_ (ht : P.underlying t = some (.map k e)) (hb : w.heap[b]? = some (.map es c)) (hk : P.underlying k = some d) (hkey : IsKey d key) (hf : Instr.findNow d key es.toList 0 = some none) :
 (Instr.mapUpdate t (.map (some b)) key val).run P w = .ok () (setBlock w b (.map (es.push { key := key, val := val, born := c }) (c + 1))) := by
 have h1 := run_checkKey (P := P) (w := w) hk hkey false 9999
 have h2 := MapKept.run_findKey (P := P) (w := w) hk hf
 simp [Instr.mapUpdate, run_underlying ht, MapKept.run_getObj_map hb, h1, h2, MapKept.run_setObj_map _ hb, setBlock, Result.andThen]
end
end
end Go.Proofs.YtacaejpamidkcaaGreatDoor
