/- word.Put of four bytes. word.Get of four signed bytes and of eight. isa: Decode, Encode. Maps of at most one entry, as concrete blocks: looked up, written, ranged over. No program in sight. -/
import Derived.Laws.IdiomStrings
import Derived.Test.YtkbilipgidcgeaaGreatDoorH11
import Derived.Test.YtkbilipgidcgeaaGreatDoorH05
import Derived.Test.YtkbilipgidcgeaaGreatDoorH10
import Derived.BigRegion
import Derived.WalkKit
import Derived.Carry
import Derived.Maps.RangeRun
import Derived.MapKept
set_option linter.unusedVariables false
set_option linter.unusedSimpArgs false
namespace Go.Proofs.YtkbilipgidcgeaaGreatDoor
open Go.RowKit

attribute [local go_sem] ext_cell ext_frozen

/-- The lowest four bytes of a number. -/
def wordL4 (n : Int) : List UInt8 := (List.range 4).map fun i => UInt8.ofNat ((n / 2 ^ (8 * i)) % 256).toNat

theorem wordL4_get (n : Int) (k : Nat) (hk : k < 4) : (wordL4 n)[k]? = some (UInt8.ofNat ((n / 2 ^ (8 * k)) % 256).toNat) := by
  simp [wordL4, hk]

theorem putStep (x : List UInt8) (n : Int) (k : Nat) (l : List Value) (hk : k < 4) (hx : 8 ≤ x.length) (h : l.take x.length = byteCells (putL x 4 ((wordL4 n).take k))) :
    (l.set ((4 : Int).toNat + k) (.int .u8 (n / 2 ^ (8 * k) % 256))).take x.length = byteCells (putL x 4 ((wordL4 n).take (k + 1))) := by
  have h4 : (4 : Int).toNat = 4 := rfl
  have hl : (wordL4 n).length = 4 := by simp [wordL4]
  rw [h4, List.take_set, h]
  have hb : (.int .u8 (n / 2 ^ (8 * k) % 256) : Value) = .int .u8 ((UInt8.ofNat ((n / 2 ^ (8 * k)) % 256).toNat).toNat : Int) := by
    have h1 := Int.emod_nonneg (n / 2 ^ (8 * k)) (show (256 : Int) ≠ 0 by decide)
    have h2 := Int.emod_lt_of_pos (n / 2 ^ (8 * k)) (show (0 : Int) < 256 by decide)
    congr 1
    simp [UInt8.toNat_ofNat']
    omega
  rw [hb]
  have h3 : (wordL4 n).take (k + 1) = (wordL4 n).take k ++ [UInt8.ofNat ((n / 2 ^ (8 * k)) % 256).toNat] := by
    rw [List.take_add_one, wordL4_get n k hk]; rfl
  generalize UInt8.ofNat ((n / 2 ^ (8 * k)) % 256).toNat = u at *
  rw [h3]
  have e1 : (byteCells (putL x 4 ((wordL4 n).take k))).set (4 + k) (.int .u8 (u.toNat : Int)) = byteCells ((putL x 4 ((wordL4 n).take k)).set (4 + k) u) := by
    simp [byteCells, List.map_set]
  rw [e1]
  congr 1
  unfold putL
  have hlk : ((wordL4 n).take k).length = k := by simp [hl]; omega
  rw [hlk, List.length_append, hlk]
  simp only [List.length_singleton]
  have h5 : (x.take 4 ++ (wordL4 n).take k).length = 4 + k := by simp [hl]; omega
  rw [List.set_append_right _ _ (by omega), h5, Nat.sub_self]
  have h6 : x.drop (4 + k) = x[4 + k]'(by omega) :: x.drop (4 + k + 1) := List.drop_eq_getElem_cons (by omega)
  rw [h6, List.set_cons_zero]
  simp [Nat.add_assoc]

set_option maxRecDepth 100000 in
set_option maxHeartbeats 1000000 in
theorem put4_pos (x : List UInt8) (n : Int) (w : World) (hx : 8 ≤ x.length) (hl : x.length ≤ 100000) (h1 : -2147483648 ≤ n) (h2 : n ≤ 2147483647) (hn : 0 ≤ n) :
    Calls Tryz.prog 73 #[.string ⟨x.toArray⟩, .int .i64 4, .int .i64 4, .int .i64 n] w fun e w' =>
      Below w.heap.size w w' ∧ e = .returned (.tuple #[.string ⟨(putL x 4 ((wordL4 n))).toArray⟩, .bool true]) := by
  have hsz : (⟨x.toArray⟩ : ByteArray).size = x.length := by simp [ByteArray.size]
  have HS := Lib.hid hsz
  clear hsz
  have hcv := fun (w : World) (s : ByteArray) => run_bytes_of_string (P := Tryz.prog) w 9 76 5 s Tryz.underlying9 Tryz.underlying76 Tryz.underlying5
  go_enter Tryz.func73, Tryz.ntmps73
  go_wp2_with (first
    | (go_at_call 74; refine (wfield_ok ⟨x.toArray⟩ 4 4 _ (by omega) (by omega) (by rw [HS.out]; omega) (by rw [HS.out]; omega)).mono ?_; rintro e w1 ⟨rfl, hb1⟩; have hsz1 := size_call2 hb1; have hb01 := below_call (((Below.refl _ _).alloc (Nat.le_refl _) _).alloc (by simp) _) hb1; have ba := (hb1.block w.heap.size (by simp; omega)).trans (block_old (heap_alloc_new w _)); have bn := (hb1.block (w.heap.size + 1) (by simp)).trans (heap_alloc2_new w _ _); have ca := cell_l ba 0 rfl; have cn := cell_l bn 0 rfl; have HB1 := Lib.hid (And.intro hb01 (And.intro ba bn)); clear hb1 hb01 ba bn)
    | (go_at_call 168; refine (fits_u _ _ h1 h2).mono ?_; rintro e w2 ⟨rfl, hb2⟩; have hsz2 := hb2.size; have ca2 := (hb2.cell (p := ⟨w.heap.size, 0, none⟩) hsz1.1).trans ca; have cn2 := (hb2.cell (p := ⟨w.heap.size + 1, 0, none⟩) hsz1.2).trans cn; have HB2 := Lib.hid hb2; clear hb2))
  obtain ⟨K, hK⟩ : ∃ K, K = grownCap w2 x.length 0 5 := ⟨_, rfl⟩
  have hK2 : x.length ≤ K := by rw [hK]; exact grownCap_ge _ _ _ _
  rw [← hK]
  obtain ⟨C, hC⟩ : ∃ C, C = bytesRow ⟨x.toArray⟩ K := ⟨_, rfl⟩
  rw [← hC]
  have hCl : C.toList = byteCells x ++ List.replicate (K - x.length) (.int .u8 0) := by
    rw [hC]; simp [bytesRow, byteCells, HS.out]
  have hCs : x.length ≤ C.size := by rw [← Array.length_toList, hCl]; simp [byteCells_length]
  refine name_world fun W hW => ?_
  have hbW : Below w2.heap.size w2 W := by rw [← hW]; exact (((Below.refl _ _).alloc (Nat.le_refl _) _).alloc (by simp) _).drew
  have hB0 : W.heap[w2.heap.size]? = some (.cells C.toList.toArray 5 (C.size, C.size + 1)) := by rw [← hW]; exact block_drew (block_old (heap_alloc_new w2 _))
  have hB1 : W.heap[w2.heap.size + 1]? = some (.cells #[.slice (some ⟨w2.heap.size, 0, none⟩) x.length K] 76 (0, 0)) := by rw [← hW]; exact block_drew (heap_alloc2_new w2 _ _)
  have e0 : W.cell? ⟨w.heap.size, 0, none⟩ = some (.int .i64 4) := (hbW.cell (p := ⟨w.heap.size, 0, none⟩) (show w.heap.size < w2.heap.size by omega)).trans ca2
  have e1 : W.cell? ⟨w.heap.size + 1, 0, none⟩ = some (.int .i64 n) := (hbW.cell (p := ⟨w.heap.size + 1, 0, none⟩) (show w.heap.size + 1 < w2.heap.size by omega)).trans cn2
  have e2 := cell_l hB1 0 rfl
  have hsW := hbW.size
  have hlB := lt_of_block hB1
  have hBW : Below w.heap.size w W := HB1.out.1.trans ((HB2.out.mono HB1.out.1.size).trans (hbW.mono (by omega)))
  have HW := Lib.hid (And.intro hB0 (And.intro hCl (And.intro hBW (And.intro e0 (And.intro e1 e2)))))
  clear hB0 hB1 hCl hBW e0 e1 e2 hbW hC hK hW ca cn ca2 cn2
  go_loopw [36] (fun i wr => ∃ (k : Nat) (l : List Value), k ≤ 4 ∧ i = .int .i64 k ∧ Only (· = w2.heap.size) W wr ∧ l.length = C.size ∧ l.take x.length = byteCells (putL x 4 ((wordL4 n).take k)) ∧
      wr.heap[w2.heap.size]? = some (.cells l.toArray 5 (C.size, C.size + 1))) (fun i _ => 4 - (intOf i).toNat)
  case atStart =>
    refine ⟨0, C.toList, by omega, rfl, Only.refl _ _, by simp, ?_, HW.out.1⟩
    rw [HW.out.2.1, List.take_append_of_le_length (by simp [byteCells_length]), List.take_of_length_le (by simp [byteCells_length])]
    simp [putL]
  case round =>
    obtain ⟨k, l, hk, rfl, ho, hlen, htk, hblk⟩ := hrel
    obtain ⟨_, _, hBW, e0, e1, e2⟩ := HW.out
    have f0 := (ho.cell (b := w.heap.size) (i := 0) (by omega) (by omega)).trans e0
    have f1 := (ho.cell (b := w.heap.size + 1) (i := 0) (by omega) (by omega)).trans e1
    have f2 := (ho.cell (b := w2.heap.size + 1) (i := 0) hlB (by omega)).trans e2
    have HH := Lib.hid (And.intro ho (And.intro hlen (And.intro htk hblk)))
    clear ho hlen htk hblk e0 e1 e2 hBW
    by_cases hlt : k < 4
    · go_wp2_with (go_at_call 169; refine (put1 (w.heap.size + 1) (w2.heap.size + 1) w.heap.size w2.heap.size C.size n 4 k x.length K l _ f1 f2 f0 HH.out.2.2.2 (by omega) (by omega) (by rw [HH.out.2.1]; exact hCs) hCs (by omega) (by omega)).mono ?_; rintro e w4 ⟨rfl, ho4, hb4⟩; have H4 := Lib.hid (And.intro ho4 hb4); clear ho4 hb4)
      go_roundw
      case rel =>
        obtain ⟨ho, hlen, htk, hblk⟩ := HH.out
        obtain ⟨ho4, hb4⟩ := H4.out
        refine ⟨k + 1, _, by omega, by go_num, ho.trans ho4, by simpa using hlen, ?_, hb4⟩
        exact putStep x n k l hlt hx htk
      case measure => simp [intOf]; omega
    · obtain rfl : k = 4 := by omega
      go_wp2
      have hlx : (putL x 4 (wordL4 n)).length = x.length := putL_length _ _ _ (by simp [wordL4]; omega)
      have ht : (wordL4 n).take 4 = wordL4 n := by rw [List.take_of_length_le]; simp [wordL4]
      rw [show x.length = (putL x 4 (wordL4 n)).length from hlx.symm, run_convert_bytes_back _ 76 9 5 ⟨w2.heap.size, 0, none⟩ _ (putL x 4 (wordL4 n)) Tryz.underlying76 Tryz.underlying5 Tryz.underlying9 ?hc]
      case hc =>
        intro j hj
        rw [addr0]
        obtain ⟨ho, hlen, htk, hblk⟩ := HH.out
        rw [ht] at htk
        have h1 : (byteCells (putL x 4 (wordL4 n)))[j]? = some (.int .u8 ((putL x 4 (wordL4 n))[j].toNat : Int)) := by simp [byteCells, List.getElem?_eq_getElem hj]
        rw [← htk, List.getElem?_take_of_lt (by omega)] at h1
        exact cell_l hblk j h1
      clear hlx ht
      go_wp2
      go_ret2
      refine ⟨?_, rfl⟩
      have hBW := HW.out.2.2.1
      exact hBW.trans (HH.out.1.below (by omega) (fun k hk => by subst hk; omega))

set_option maxRecDepth 100000 in
set_option maxHeartbeats 4000000 in
theorem put4_neg (x : List UInt8) (n : Int) (w : World) (hx : 8 ≤ x.length) (hl : x.length ≤ 100000) (h1 : -2147483648 ≤ n) (h2 : n ≤ 2147483647) (hn : ¬ 0 ≤ n) :
    Calls Tryz.prog 73 #[.string ⟨x.toArray⟩, .int .i64 4, .int .i64 4, .int .i64 n] w fun e w' =>
      Below w.heap.size w w' ∧ e = .returned (.tuple #[.string ⟨(putL x 4 ((wordL4 n))).toArray⟩, .bool true]) := by
  have hsz : (⟨x.toArray⟩ : ByteArray).size = x.length := by simp [ByteArray.size]
  have HS := Lib.hid hsz
  clear hsz
  have hcv := fun (w : World) (s : ByteArray) => run_bytes_of_string (P := Tryz.prog) w 9 76 5 s Tryz.underlying9 Tryz.underlying76 Tryz.underlying5
  have hn' : decide (0 ≤ n) = false := by simpa using hn
  go_enter Tryz.func73, Tryz.ntmps73
  go_wp2_with (go_at_call 74; refine (wfield_ok ⟨x.toArray⟩ 4 4 _ (by omega) (by omega) (by rw [HS.out]; omega) (by rw [HS.out]; omega)).mono ?_; rintro e w1 ⟨rfl, hb1⟩; have hsz1 := size_call2 hb1; have hb01 := below_call (((Below.refl _ _).alloc (Nat.le_refl _) _).alloc (by simp) _) hb1; have ba := (hb1.block w.heap.size (by simp; omega)).trans (block_old (heap_alloc_new w _)); have bn := (hb1.block (w.heap.size + 1) (by simp)).trans (heap_alloc2_new w _ _); have ca := cell_l ba 0 rfl; have cn := cell_l bn 0 rfl; have HB1 := Lib.hid (And.intro hb01 (And.intro ba bn)); clear hb1 hb01 ba bn)
  go_at_call 168
  refine (fits_u n _ h1 h2).mono ?_
  rintro e wq ⟨rfl, hbq⟩
  rw [hn']
  have hszq := hbq.size
  have caq := (hbq.cell (p := ⟨w.heap.size, 0, none⟩) hsz1.1).trans ca
  have cnq := (hbq.cell (p := ⟨w.heap.size + 1, 0, none⟩) hsz1.2).trans cn
  have HBQ := Lib.hid hbq
  clear hbq ca cn
  go_wp2_with fail
  go_at_call 168
  refine (fits_s n _ h1 h2).mono ?_
  rintro e w2 ⟨rfl, hb2⟩
  have hsz2' := hb2.size
  have hsz2 : w1.heap.size ≤ w2.heap.size := by omega
  have ca2 := (hb2.cell (p := ⟨w.heap.size, 0, none⟩) (show w.heap.size < wq.heap.size by omega)).trans caq
  have cn2 := (hb2.cell (p := ⟨w.heap.size + 1, 0, none⟩) (show w.heap.size + 1 < wq.heap.size by omega)).trans cnq
  have HB2 := Lib.hid (HBQ.out.trans (hb2.mono hszq))
  clear hb2 caq cnq
  go_wp2
  obtain ⟨K, hK⟩ : ∃ K, K = grownCap w2 x.length 0 5 := ⟨_, rfl⟩
  have hK2 : x.length ≤ K := by rw [hK]; exact grownCap_ge _ _ _ _
  rw [← hK]
  obtain ⟨C, hC⟩ : ∃ C, C = bytesRow ⟨x.toArray⟩ K := ⟨_, rfl⟩
  rw [← hC]
  have hCl : C.toList = byteCells x ++ List.replicate (K - x.length) (.int .u8 0) := by
    rw [hC]; simp [bytesRow, byteCells, HS.out]
  have hCs : x.length ≤ C.size := by rw [← Array.length_toList, hCl]; simp [byteCells_length]
  refine name_world fun W hW => ?_
  have hbW : Below w2.heap.size w2 W := by rw [← hW]; exact (((Below.refl _ _).alloc (Nat.le_refl _) _).alloc (by simp) _).drew
  have hB0 : W.heap[w2.heap.size]? = some (.cells C.toList.toArray 5 (C.size, C.size + 1)) := by rw [← hW]; exact block_drew (block_old (heap_alloc_new w2 _))
  have hB1 : W.heap[w2.heap.size + 1]? = some (.cells #[.slice (some ⟨w2.heap.size, 0, none⟩) x.length K] 76 (0, 0)) := by rw [← hW]; exact block_drew (heap_alloc2_new w2 _ _)
  have e0 : W.cell? ⟨w.heap.size, 0, none⟩ = some (.int .i64 4) := (hbW.cell (p := ⟨w.heap.size, 0, none⟩) (show w.heap.size < w2.heap.size by omega)).trans ca2
  have e1 : W.cell? ⟨w.heap.size + 1, 0, none⟩ = some (.int .i64 n) := (hbW.cell (p := ⟨w.heap.size + 1, 0, none⟩) (show w.heap.size + 1 < w2.heap.size by omega)).trans cn2
  have e2 := cell_l hB1 0 rfl
  have hsW := hbW.size
  have hlB := lt_of_block hB1
  have hBW : Below w.heap.size w W := HB1.out.1.trans ((HB2.out.mono HB1.out.1.size).trans (hbW.mono (by omega)))
  have HW := Lib.hid (And.intro hB0 (And.intro hCl (And.intro hBW (And.intro e0 (And.intro e1 e2)))))
  clear hB0 hB1 hCl hBW e0 e1 e2 hbW hC hK hW ca2 cn2
  go_loopw [36] (fun i wr => ∃ (k : Nat) (l : List Value), k ≤ 4 ∧ i = .int .i64 k ∧ Only (· = w2.heap.size) W wr ∧ l.length = C.size ∧ l.take x.length = byteCells (putL x 4 ((wordL4 n).take k)) ∧
      wr.heap[w2.heap.size]? = some (.cells l.toArray 5 (C.size, C.size + 1))) (fun i _ => 4 - (intOf i).toNat)
  case atStart =>
    refine ⟨0, C.toList, by omega, rfl, Only.refl _ _, by simp, ?_, HW.out.1⟩
    rw [HW.out.2.1, List.take_append_of_le_length (by simp [byteCells_length]), List.take_of_length_le (by simp [byteCells_length])]
    simp [putL]
  case round =>
    obtain ⟨k, l, hk, rfl, ho, hlen, htk, hblk⟩ := hrel
    obtain ⟨_, _, hBW, e0, e1, e2⟩ := HW.out
    have f0 := (ho.cell (b := w.heap.size) (i := 0) (by omega) (by omega)).trans e0
    have f1 := (ho.cell (b := w.heap.size + 1) (i := 0) (by omega) (by omega)).trans e1
    have f2 := (ho.cell (b := w2.heap.size + 1) (i := 0) hlB (by omega)).trans e2
    have HH := Lib.hid (And.intro ho (And.intro hlen (And.intro htk hblk)))
    clear ho hlen htk hblk e0 e1 e2 hBW
    by_cases hlt : k < 4
    · go_wp2_with (go_at_call 169; refine (put1 (w.heap.size + 1) (w2.heap.size + 1) w.heap.size w2.heap.size C.size n 4 k x.length K l _ f1 f2 f0 HH.out.2.2.2 (by omega) (by omega) (by rw [HH.out.2.1]; exact hCs) hCs (by omega) (by omega)).mono ?_; rintro e w4 ⟨rfl, ho4, hb4⟩; have H4 := Lib.hid (And.intro ho4 hb4); clear ho4 hb4)
      go_roundw
      case rel =>
        obtain ⟨ho, hlen, htk, hblk⟩ := HH.out
        obtain ⟨ho4, hb4⟩ := H4.out
        refine ⟨k + 1, _, by omega, by go_num, ho.trans ho4, by simpa using hlen, ?_, hb4⟩
        exact putStep x n k l hlt hx htk
      case measure => simp [intOf]; omega
    · obtain rfl : k = 4 := by omega
      go_wp2
      have hlx : (putL x 4 (wordL4 n)).length = x.length := putL_length _ _ _ (by simp [wordL4]; omega)
      have ht : (wordL4 n).take 4 = wordL4 n := by rw [List.take_of_length_le]; simp [wordL4]
      rw [show x.length = (putL x 4 (wordL4 n)).length from hlx.symm, run_convert_bytes_back _ 76 9 5 ⟨w2.heap.size, 0, none⟩ _ (putL x 4 (wordL4 n)) Tryz.underlying76 Tryz.underlying5 Tryz.underlying9 ?hc]
      case hc =>
        intro j hj
        rw [addr0]
        obtain ⟨ho, hlen, htk, hblk⟩ := HH.out
        rw [ht] at htk
        have h1 : (byteCells (putL x 4 (wordL4 n)))[j]? = some (.int .u8 ((putL x 4 (wordL4 n))[j].toNat : Int)) := by simp [byteCells, List.getElem?_eq_getElem hj]
        rw [← htk, List.getElem?_take_of_lt (by omega)] at h1
        exact cell_l hblk j h1
      clear hlx ht
      go_wp2
      go_ret2
      refine ⟨?_, rfl⟩
      have hBW := HW.out.2.2.1
      exact hBW.trans (HH.out.1.below (by omega) (fun k hk => by subst hk; omega))

theorem put4 (x : List UInt8) (n : Int) (w : World) (hx : 8 ≤ x.length) (hl : x.length ≤ 100000) (h1 : -2147483648 ≤ n) (h2 : n ≤ 2147483647) :
    Calls Tryz.prog 73 #[.string ⟨x.toArray⟩, .int .i64 4, .int .i64 4, .int .i64 n] w fun e w' =>
      Below w.heap.size w w' ∧ e = .returned (.tuple #[.string ⟨(putL x 4 ((wordL4 n))).toArray⟩, .bool true]) := by
  by_cases hn : 0 ≤ n
  · exact put4_pos x n w hx hl h1 h2 hn
  · exact put4_neg x n w hx hl h1 h2 hn
end Go.Proofs.YtkbilipgidcgeaaGreatDoor

namespace Go.Proofs.YtkbilipgidcgeaaGreatDoor
open Go.RowKit
attribute [local go_sem] ext_cell ext_frozen

theorem get_step (n b k : Nat) (hk : k < 8) (hn : n < 256 ^ k) (hb : b < 256) : bits .or .u64 (n : Int) (IntKind.u64.wrap (IntKind.u64.wrap (b : Int) * 2 ^ (8 * k))) = ((n + b * 256 ^ k : Nat) : Int) := by
  have e1 : IntKind.u64.wrap (b : Int) = (b : Int) := by rw [IntKind.wrap_u64]; omega
  have e3 : (256 : Nat) ^ k = 2 ^ (8 * k) := by rw [Nat.pow_mul]
  have hp : 256 ^ k * 256 ≤ 256 ^ 8 := by rw [← Nat.pow_succ]; exact Nat.pow_le_pow_right (by omega) (by omega)
  have h8 : (256 : Nat) ^ 8 = 18446744073709551616 := by decide
  have hlt : b * 256 ^ k < 18446744073709551616 := by
    have : b * 256 ^ k ≤ 255 * 256 ^ k := Nat.mul_le_mul_right _ (by omega)
    have hpos : 0 < 256 ^ k := Nat.pow_pos (by omega)
    omega
  have hnlt : n < 18446744073709551616 := by
    have hpos : 0 < 256 ^ k := Nat.pow_pos (by omega)
    omega
  have e2 : IntKind.u64.wrap ((b : Int) * 2 ^ (8 * k)) = ((b * 256 ^ k : Nat) : Int) := by
    rw [IntKind.wrap_u64, e3]
    have : (b : Int) * 2 ^ (8 * k) = ((b * 2 ^ (8 * k) : Nat) : Int) := by push_cast; rfl
    rw [this]
    rw [e3] at hlt
    omega
  rw [e1, e2, u64_or_nat _ _ hnlt hlt, or_join n b k hk hn hb]

set_option maxRecDepth 100000 in
set_option maxHeartbeats 1000000 in
theorem get4 (x : List UInt8) (w : World) (hx : x.length = 8) :
    Calls Tryz.prog 30 #[.string ⟨x.toArray⟩, .int .i64 4, .int .i64 4, .bool true] w fun e w' =>
      Below w.heap.size w w' ∧ e = .returned (.tuple #[.int .i64 (sgn32 (leN (x.drop 4))), .bool true]) := by
  have hsz : (⟨x.toArray⟩ : ByteArray).size = 8 := by simp [ByteArray.size, hx]
  have HS := Lib.hid hsz
  have HX := Lib.hid hx
  clear hsz hx
  go_enter Tryz.func30, Tryz.ntmps30
  go_wp2_with (go_at_call 74; refine (wfield_ok ⟨x.toArray⟩ 4 4 _ (by omega) (by omega) (by rw [HS.out]; omega) (by rw [HS.out]; omega)).mono ?_; rintro e w1 ⟨rfl, hb1⟩; have HB := Lib.hid hb1; clear hb1)
  go_loop [10, 19] (fun n i => ∃ k : Nat, k ≤ 4 ∧ i = .int .i64 k ∧ n = .int .u64 (leN ((x.drop 4).take k) : Nat)) (fun _ i => 4 - (intOf i).toNat)
  case atStart => exact ⟨0, by omega, rfl, rfl⟩
  case round =>
    obtain ⟨k, hk, rfl, rfl⟩ := hrel
    by_cases hlt : k < 4
    · have hb1 : (0 : Int) ≤ 4 + (k : Int) := by omega
      have hb2 : 4 + (k : Int) < (x.length : Int) := by rw [HX.out]; omega
      go_wp2
      go_round
      case rel =>
        refine ⟨k + 1, by omega, by go_num, ?_⟩
        have hl : k < (x.drop 4).length := by rw [List.length_drop, HX.out]; omega
        rw [leN_take _ k hl, get_step _ _ k (by omega) (leN_take_lt _ k (by omega)) (UInt8.toNat_lt _)]
        all_goals (congr 4 <;> first | rfl | (simp; done) | (simp; rfl))
      case measure => simp [intOf]; omega
    · obtain rfl : k = 4 := by omega
      go_wp2
      go_ret2
      refine ⟨HB.out, ?_⟩
      have ht : (x.drop 4).take 4 = x.drop 4 := List.take_of_length_le (by rw [List.length_drop, HX.out]; omega)
      have hn := leN_lt (x.drop 4)
      rw [show (x.drop 4).length = 4 from by rw [List.length_drop, HX.out]] at hn
      rw [ht]
      generalize leN (x.drop 4) = n at *
      have h8 : (256 : Nat) ^ 4 = 4294967296 := by decide
      rw [h8] at hn
      have e2 : wrap64 (IntKind.u64.wrap ((n : Int) * 4294967296)) / 4294967296 = sgn32 n := by
        rw [IntKind.wrap_u64]; unfold wrap64 sgn32; split <;> omega
      show Ending.returned (.tuple #[.int .i64 (wrap64 (IntKind.u64.wrap ((n : Int) * 4294967296)) / 4294967296), .bool true]) = _
      rw [e2]

set_option maxRecDepth 100000 in
set_option maxHeartbeats 1000000 in
theorem get8 (x : List UInt8) (w : World) (hx : x.length = 8) :
    Calls Tryz.prog 30 #[.string ⟨x.toArray⟩, .int .i64 0, .int .i64 8, .bool true] w fun e w' =>
      Below w.heap.size w w' ∧ e = .returned (.tuple #[.int .i64 (sgn64 (leN (x))), .bool true]) := by
  have hsz : (⟨x.toArray⟩ : ByteArray).size = 8 := by simp [ByteArray.size, hx]
  have HS := Lib.hid hsz
  have HX := Lib.hid hx
  clear hsz hx
  go_enter Tryz.func30, Tryz.ntmps30
  go_wp2_with (go_at_call 74; refine (wfield_ok ⟨x.toArray⟩ 0 8 _ (by omega) (by omega) (by rw [HS.out]; omega) (by rw [HS.out]; omega)).mono ?_; rintro e w1 ⟨rfl, hb1⟩; have HB := Lib.hid hb1; clear hb1)
  go_loop [10, 19] (fun n i => ∃ k : Nat, k ≤ 8 ∧ i = .int .i64 k ∧ n = .int .u64 (leN ((x).take k) : Nat)) (fun _ i => 8 - (intOf i).toNat)
  case atStart => exact ⟨0, by omega, rfl, rfl⟩
  case round =>
    obtain ⟨k, hk, rfl, rfl⟩ := hrel
    by_cases hlt : k < 8
    · have hb1 : (0 : Int) ≤ (k : Int) := by omega
      have hb2 : (k : Int) < (x.length : Int) := by rw [HX.out]; omega
      go_wp2
      go_round
      case rel =>
        refine ⟨k + 1, by omega, by go_num, ?_⟩
        have hl : k < (x).length := by rw [HX.out]; omega
        rw [leN_take _ k hl, get_step _ _ k (by omega) (leN_take_lt _ k (by omega)) (UInt8.toNat_lt _)]
        all_goals (congr 4 <;> first | rfl | (simp; done) | (simp; rfl))
      case measure => simp [intOf]; omega
    · obtain rfl : k = 8 := by omega
      go_wp2
      go_ret2
      refine ⟨HB.out, ?_⟩
      have ht : (x).take 8 = x := List.take_of_length_le (by rw [HX.out]; omega)
      have hn := leN_lt (x)
      rw [show (x).length = 8 from by exact HX.out] at hn
      rw [ht]
      generalize leN (x) = n at *
      have h8 : (256 : Nat) ^ 8 = 18446744073709551616 := by decide
      rw [h8] at hn
      have e2 : wrap64 (IntKind.u64.wrap (n : Int)) = sgn64 n := by
        rw [IntKind.wrap_u64]; unfold wrap64 sgn64; split <;> omega
      show Ending.returned (.tuple #[.int .i64 (wrap64 (IntKind.u64.wrap (n : Int))), .bool true]) = _
      rw [e2]
end Go.Proofs.YtkbilipgidcgeaaGreatDoor

namespace Go.Proofs.YtkbilipgidcgeaaGreatDoor
open Go.RowKit
attribute [local go_sem] ext_cell ext_frozen

/-- The operands of the instructions. -/
def opF (n : Nat) : ByteArray :=
  match n with
  | 3 | 4 | 14 | 20 | 21 => ⟨#[65, 73]⟩
  | 5 | 29 => ⟨#[65, 66]⟩
  | 6 | 7 | 8 | 9 | 10 | 11 | 12 => ⟨#[65, 66, 67]⟩
  | 13 | 15 | 16 | 17 | 18 => ⟨#[65, 66, 73]⟩
  | 19 | 22 | 24 | 25 | 30 => ⟨#[73]⟩
  | 23 | 27 | 28 => ⟨#[65]⟩
  | _ => ⟨#[]⟩

/-- The table of the forms in memory. -/
structure Forms (w : World) : Prop where
  pos : 0 < w.heap.size
  get : ∀ op : Nat, op < 31 → w.cell? ⟨0, op * 4 + 1, none⟩ = some (.string (opF op))

theorem Forms.below {w w' : World} (h : Forms w) (hb : Below w.heap.size w w') : Forms w' :=
  ⟨Nat.lt_of_lt_of_le h.pos hb.size, fun op ho => (hb.cell (p := ⟨0, op * 4 + 1, none⟩) h.pos).trans (h.get op ho)⟩
theorem Forms.only {S : Nat → Prop} {w w' : World} (h : Forms w) (ho : Only S w w') (hs : ¬ S 0) : Forms w' :=
  ⟨Nat.lt_of_lt_of_le h.pos ho.size, fun op hop => (ho.cell h.pos hs).trans (h.get op hop)⟩

theorem q_of (x : UInt8) : wrap64 (x.toNat : Int) = x.toNat := by have := x.toNat_lt; unfold wrap64; omega
theorem q_0 (x0 x1 x2 x3 x4 x5 x6 x7 : UInt8) : wrap64 (((⟨#[x0, x1, x2, x3, x4, x5, x6, x7]⟩ : ByteArray)[0]'(show 0 < 8 by decide)).toNat : Int) = x0.toNat := q_of x0
theorem q_1 (x0 x1 x2 x3 x4 x5 x6 x7 : UInt8) : wrap64 (((⟨#[x0, x1, x2, x3, x4, x5, x6, x7]⟩ : ByteArray)[1]'(show 1 < 8 by decide)).toNat : Int) = x1.toNat := q_of x1
theorem q_2 (x0 x1 x2 x3 x4 x5 x6 x7 : UInt8) : wrap64 (((⟨#[x0, x1, x2, x3, x4, x5, x6, x7]⟩ : ByteArray)[2]'(show 2 < 8 by decide)).toNat : Int) = x2.toNat := q_of x2
theorem q_3 (x0 x1 x2 x3 x4 x5 x6 x7 : UInt8) : wrap64 (((⟨#[x0, x1, x2, x3, x4, x5, x6, x7]⟩ : ByteArray)[3]'(show 3 < 8 by decide)).toNat : Int) = x3.toNat := q_of x3

set_option maxRecDepth 100000 in
set_option maxHeartbeats 1000000 in
theorem decode8 (x0 x1 x2 x3 x4 x5 x6 x7 : UInt8) (imm : Int) (w : World) (hf : Forms w) (himm : sgn32 (leN [x4, x5, x6, x7]) = imm)
    (h : InsOk (opF x0.toNat) (x0.toNat : Int) (x1.toNat : Int) (x2.toNat : Int) (x3.toNat : Int) imm) :
    Calls Tryz.prog 92 #[.string ⟨#[x0, x1, x2, x3, x4, x5, x6, x7]⟩, .int .i64 0] w fun e w' =>
      Below w.heap.size w w' ∧ e = .returned (.tuple #[insV x0.toNat x1.toNat x2.toNat x3.toNat imm, .bool true]) := by
  have HI := Lib.hid himm
  have HH := Lib.hid h
  have HF := Lib.hid hf
  have hpos := hf.pos
  have n0 := x0.toNat_lt
  have n1 := x1.toNat_lt
  have n2 := x2.toNat_lt
  have n3 := x3.toNat_lt
  clear himm h hf
  unfold insV at *
  go_enter Tryz.func92, Tryz.ntmps92
  go_wp2_with (go_at_call 30; refine (get4 [x0, x1, x2, x3, x4, x5, x6, x7] _ rfl).mono ?_; rintro e w1 ⟨hb1, rfl⟩; rw [show List.drop 4 [x0, x1, x2, x3, x4, x5, x6, x7] = [x4, x5, x6, x7] from rfl, HI.out]; have HB1 := Lib.hid hb1; clear hb1)
  refine name_world fun W hW => ?_
  have HW := Lib.hid hW
  clear hW
  have q0 := q_0 x0 x1 x2 x3 x4 x5 x6 x7
  have q1 := q_1 x0 x1 x2 x3 x4 x5 x6 x7
  have q2 := q_2 x0 x1 x2 x3 x4 x5 x6 x7
  have q3 := q_3 x0 x1 x2 x3 x4 x5 x6 x7
  go_region
  go_wp2_with fail
  clear q0 q1 q2 q3
  have hWB : Below w.heap.size w W := by rw [← HW.out]; exact below_call ((Below.refl _ _).alloc (Nat.le_refl _) _) HB1.out
  have hW0 : W.heap[w.heap.size]? = some (.cells #[.int .i64 0, .int .i64 0, .int .i64 0, .int .i64 0, .int .i64 0] 67 (0, 0)) := by rw [← HW.out]; exact new_block HB1.out
  go_at_call 72
  have vB : Below W.heap.size W ((W.alloc (.cells #[.int .i64 x0.toNat, .int .i64 x1.toNat, .int .i64 x2.toNat, .int .i64 x3.toNat, .int .i64 imm] 67)).drew) := ((Below.refl _ _).alloc (Nat.le_refl _) _).drew
  have v8 : ((W.alloc (.cells #[.int .i64 x0.toNat, .int .i64 x1.toNat, .int .i64 x2.toNat, .int .i64 x3.toNat, .int .i64 imm] 67)).drew).heap[W.heap.size]? = some (.cells #[.int .i64 x0.toNat, .int .i64 x1.toNat, .int .i64 x2.toNat, .int .i64 x3.toNat, .int .i64 imm] 67 (0, 0)) := block_drew (heap_alloc_new _ _)
  have vF := (HF.out.below hWB).below vB
  refine (right_ins (opF x0.toNat) _ _ _ _ _ _ HH.out (vF.get x0.toNat (by have := HH.out.hi; omega)) vF.pos).mono ?_
  rintro e w2 ⟨rfl, hb2⟩
  have k0 := (hb2.block _ (by simp; exact Nat.lt_of_lt_of_le (lt_of_block hW0) (by omega))).trans ((vB.block _ (lt_of_block hW0)).trans hW0)
  have k8 := (hb2.block _ (lt_of_block v8)).trans v8
  have kB := hWB.trans ((vB.trans (hb2.mono vB.size)).mono hWB.size)
  have h08 : w.heap.size ≠ W.heap.size := by have := lt_of_block hW0; omega
  (have c0 := cell_l k8 0 rfl; have f0 := free_in k8 0; have c1 := cell_l k8 1 rfl; have f1 := free_in k8 1; have c2 := cell_l k8 2 rfl; have f2 := free_in k8 2; have c3 := cell_l k8 3 rfl; have f3 := free_in k8 3; have c4 := cell_l k8 4 rfl; have f4 := free_in k8 4)
  have HK := Lib.hid (And.intro kB (And.intro k0 k8))
  clear hWB hW0 vB v8 vF hb2 kB
  have g0 := cell_l k0 0 rfl
  have p0 := free_in k0 0
  go_wp2_with ((with_reducible refine at_store_law ?_); refine wpList_store_row rfl _ _ _ rfl _ _ rfl rfl _ _ (by (repeat (first | assumption | exact heap_alloc_new _ _ | refine block_old ?_ | refine block_drew ?_ | apply setRow_heap | (refine (setRow_other _ _ _ _ ?_).trans ?_; omega)))) (by kernel_rfl) (by rfl) (by simp [Value.oneCell']) ?_; (try simp only [World.setRow_alloc_new]))
  obtain ⟨kB, k0, k8⟩ := HK.out
  have hcell : (w2.setRow w.heap.size #[.int .i64 x0.toNat, .int .i64 x1.toNat, .int .i64 x2.toNat, .int .i64 x3.toNat, .int .i64 imm]).heap[w.heap.size]? = some (.cells #[.int .i64 x0.toNat, .int .i64 x1.toNat, .int .i64 x2.toNat, .int .i64 x3.toNat, .int .i64 imm] 67 (0, 0)) := setRow_heap _ _ _ _ _ _ k0
  refine bodyPost_ret (results_cell_tmp (t2 := 5) rfl _ _ w.heap.size _ _ _ _ rfl hcell Tryz.underlying67 rfl (by kernel_rfl)) rfl ?_
  exact ⟨((Only.of_below_le kB (fun k _ h => h) : Only (fun b => w.heap.size ≤ b) w w2).setRow _ _ (.inl (Nat.le_refl _))).below (Nat.le_refl _) (fun k h => h), rfl⟩

/-- The bytes of an instruction. -/
def encL (op a b c imm : Int) : List UInt8 := putL [UInt8.ofNat op.toNat, UInt8.ofNat a.toNat, UInt8.ofNat b.toNat, UInt8.ofNat c.toNat, 0, 0, 0, 0] 4 (wordL4 imm)

theorem bytes_cell {W : World} {g : Nat} {l : List UInt8} {t : TypeId} {fr : Nat × Nat} (hB : W.heap[g]? = some (.cells (byteCells l).toArray t fr)) (j : Nat) (hj : j < l.length) : W.cell? ⟨g, j, none⟩ = some (.int .u8 (l[j].toNat : Int)) :=
  cell_l hB j (by simp [byteCells, List.getElem?_eq_getElem hj])

theorem byte_nat (n : Int) (h0 : 0 ≤ n) (h1 : n < 256) : ((UInt8.ofNat n.toNat).toNat : Int) = n := by
  simp [UInt8.toNat_ofNat']
  omega

theorem byte_in (n : Int) (h0 : 0 ≤ n) (h1 : n < 256) : IntKind.u8.wrap n = ((UInt8.ofNat n.toNat).toNat : Int) := by
  rw [IntKind.wrap_u8']
  simp [UInt8.toNat_ofNat']
  omega

set_option maxRecDepth 100000 in
set_option maxHeartbeats 1000000 in
theorem encode_ok (op a b c imm : Int) (w : World) (hf : Forms w) (h : InsOk (opF op.toNat) op a b c imm) :
    Calls Tryz.prog 28 #[insV op a b c imm] w fun e w' => Below w.heap.size w w' ∧ e = .returned (.tuple #[.string ⟨(encL op a b c imm).toArray⟩, .bool true]) := by
  have o0 := h.lo
  have o1 := h.hi
  have a0 := h.a0
  have a1 := h.a1
  have b0 := h.b0
  have b1 := h.b1
  have c0 := h.c0
  have c1 := h.c1
  have HH := Lib.hid h
  have HF := Lib.hid hf
  clear h hf
  unfold insV
  go_enter Tryz.func28, Tryz.ntmps28
  go_wp2_with (go_at_call 72; refine (right_ins (opF op.toNat) op a b c imm _ HH.out ((HF.out.below ((Below.refl _ _).alloc (Nat.le_refl _) _)).get op.toNat (by omega)) (by simp)).mono ?_; rintro e w1 ⟨rfl, hb1⟩; have k1 := new_block hb1; have e0 := cell_l k1 0 rfl; have e1 := cell_l k1 1 rfl; have e2 := cell_l k1 2 rfl; have e3 := cell_l k1 3 rfl; have e4 := cell_l k1 4 rfl; have H1 := Lib.hid (And.intro k1 (below_call ((Below.refl _ _).alloc (Nat.le_refl _) _) hb1)); clear k1 hb1)
  rw [show (8 : Nat) = ([UInt8.ofNat op.toNat, UInt8.ofNat a.toNat, UInt8.ofNat b.toNat, UInt8.ofNat c.toNat, 0, 0, 0, 0] : List UInt8).length from rfl, run_convert_bytes_back _ 76 9 5 ⟨w1.heap.size, 0, none⟩ _ [UInt8.ofNat op.toNat, UInt8.ofNat a.toNat, UInt8.ofNat b.toNat, UInt8.ofNat c.toNat, 0, 0, 0, 0] Tryz.underlying76 Tryz.underlying5 Tryz.underlying9 ?hc]
  case hc =>
    intro j hj
    have hb : [Value.int .u8 op, .int .u8 a, .int .u8 b, .int .u8 c, .int .u8 0, .int .u8 0, .int .u8 0, .int .u8 0] = byteCells [UInt8.ofNat op.toNat, UInt8.ofNat a.toNat, UInt8.ofNat b.toNat, UInt8.ofNat c.toNat, 0, 0, 0, 0] := by
      simp only [byteCells, List.map_cons, List.map_nil]
      rw [byte_nat op (by omega) (by omega), byte_nat a (by omega) (by omega), byte_nat b (by omega) (by omega), byte_nat c (by omega) (by omega)]
      rfl
    rw [addr0]
    refine bytes_cell (t := 5) (fr := (0, 0)) ?_ j hj
    rw [← hb]
    exact heap_alloc_new _ _
  have hs1 := (H1.out.2).size
  have him1 := HH.out.im.lo
  have him2 := HH.out.im.hi
  have e4' : ∀ o, (w1.alloc o).cell? ⟨w.heap.size, 4, none⟩ = some (.int .i64 imm) := fun o => by rw [World.cell?_alloc_past _ _ _ (lt_of_block H1.out.1)]; exact e4
  have E4 := Lib.hid e4'
  have e5 := E4.out (.cells #[.int .u8 op, .int .u8 a, .int .u8 b, .int .u8 c, .int .u8 0, .int .u8 0, .int .u8 0, .int .u8 0] 5)
  clear e4' e0 e1 e2 e3 e4
  go_wp2_with (go_at_call 73; refine (put4 [UInt8.ofNat op.toNat, UInt8.ofNat a.toNat, UInt8.ofNat b.toNat, UInt8.ofNat c.toNat, 0, 0, 0, 0] imm _ (by simp) (by simp) him1 him2).mono ?_; rintro e w2 ⟨hb2, rfl⟩; have H2 := Lib.hid hb2; clear hb2)
  go_ret2
  exact ⟨H1.out.2.trans ((((Below.refl _ _).alloc (Nat.le_refl _) _).trans (H2.out.mono (by simp))).mono hs1), rfl⟩
end Go.Proofs.YtkbilipgidcgeaaGreatDoor

namespace Go.Proofs.YtkbilipgidcgeaaGreatDoor
open Go.RowKit Go.MapKept Go.ChangeMaps

theorem setBlock_size (w : World) (b : Nat) (o : Obj) : (setBlock w b o).heap.size = w.heap.size := by simp [setBlock]
theorem setBlock_same {w : World} {b : Nat} (h : b < w.heap.size) (o : Obj) : (setBlock w b o).heap[b]? = some o := by simp [setBlock, h]
theorem setBlock_other (w : World) {b i : Nat} (o : Obj) (h : i ≠ b) : (setBlock w b o).heap[i]? = w.heap[i]? := by simp [setBlock, Ne.symm h]
theorem setBlock_cell (w : World) {b i j : Nat} (o : Obj) (h : i ≠ b) : (setBlock w b o).cell? ⟨i, j, none⟩ = w.cell? ⟨i, j, none⟩ := World.cell?_of_block (setBlock_other w o h)
theorem setBlock_frozen (w : World) {b i j : Nat} (o : Obj) (h : i ≠ b) : (setBlock w b o).frozen? ⟨i, j, none⟩ = w.frozen? ⟨i, j, none⟩ := World.frozen?_of_block (setBlock_other w o h)

section
variable {P : Program} {w : World} {t k e : TypeId} {b c : Nat} {z key val v : Value} {d : TypeDesc} {es : Array MapEntry}

theorem map_look (ok : Bool) (ht : P.underlying t = some (.map k e)) (hb : w.heap[b]? = some (.map es c)) (hk : P.underlying k = some d) (hkey : IsKey d key) (hz : (zeroValue e).run P w = .ok z w)
    (hf : Instr.findNow d key es.toList 0 = some none) :
    (Instr.lookup t (.map (some b)) key ok).run P w = .ok (if ok then .tuple #[z, .bool false] else z) w := by
  have h1 := run_checkKey (P := P) (w := w) hk hkey es.isEmpty 9999
  have h2 := MapKept.run_findKey (P := P) (w := w) hk hf
  simp [Instr.lookup, run_underlying ht, MapKept.run_getObj_map hb, h1, h2, hz, Result.andThen]

theorem map_hit (ok : Bool) (i : Nat) (ht : P.underlying t = some (.map k e)) (hb : w.heap[b]? = some (.map es c)) (hk : P.underlying k = some d) (hkey : IsKey d key)
    (hf : Instr.findNow d key es.toList 0 = some (some (i, v))) :
    (Instr.lookup t (.map (some b)) key ok).run P w = .ok (if ok then .tuple #[v, .bool true] else v) w := by
  have h1 := run_checkKey (P := P) (w := w) hk hkey es.isEmpty 9999
  have h2 := MapKept.run_findKey (P := P) (w := w) hk hf
  simp [Instr.lookup, run_underlying ht, MapKept.run_getObj_map hb, h1, h2, Result.andThen]

/-- A key of any make in an empty map. -/
theorem map_look_empty (ok : Bool) (ht : P.underlying t = some (.map k e)) (hb : w.heap[b]? = some (.map #[] c)) (hck : (Instr.checkKey true 10000 k key).run P w = .ok () w) (hk : P.underlying k = some d) (hz : (zeroValue e).run P w = .ok z w) :
    (Instr.lookup t (.map (some b)) key ok).run P w = .ok (if ok then .tuple #[z, .bool false] else z) w := by
  simp [Instr.lookup, run_underlying ht, MapKept.run_getObj_map hb, hck, Instr.findKey, run_underlying hk, Instr.findNow, hz, Result.andThen]

theorem map_new (ht : P.underlying t = some (.map k e)) (hb : w.heap[b]? = some (.map es c)) (hk : P.underlying k = some d) (hkey : IsKey d key) (hf : Instr.findNow d key es.toList 0 = some none) :
    (Instr.mapUpdate t (.map (some b)) key val).run P w = .ok () (setBlock w b (.map (es.push { key := key, val := val, born := c }) (c + 1))) := by
  have h1 := run_checkKey (P := P) (w := w) hk hkey false 9999
  have h2 := MapKept.run_findKey (P := P) (w := w) hk hf
  simp [Instr.mapUpdate, run_underlying ht, MapKept.run_getObj_map hb, h1, h2, MapKept.run_setObj_map _ hb, setBlock, Result.andThen]

theorem map_range (ht : P.underlying t = some (.map k e)) (hb : w.heap[b]? = some (.map es c)) :
    (Instr.range t (.map (some b))).run P w = .ok (.pointer (some ⟨w.heap.size, 0, none⟩)) (w.alloc (.mapIter (some b) c #[] c)) := by
  simp [Instr.range, run_underlying ht, MapKept.run_getObj_map hb, newObj, Sem.run, Result.andThen]

/-- The range of a map without entries, or behind the last one. -/
theorem map_next_end (ty : TypeId) (r c1 c2 : Nat) (seen : Array Nat) (hr : w.heap[r]? = some (.mapIter (some b) c1 seen c2)) (hb : w.heap[b]? = some (.map es c)) (hold : ∀ x ∈ es.toList, x.born < c1) (hc : c1 ≤ c2)
    (hl : leftOf es seen = #[]) : (Instr.next (.pointer (some ⟨r, 0, none⟩)) false ty).run P w = .ok (.tuple #[.bool false]) w := by
  rcases run_next_at (P := P) w ty r b c1 c2 seen es c hr hb hold hc with ⟨_, h⟩ | ⟨e, he, _⟩
  · exact h
  · rw [hl] at he; simp at he

/-- The first entry of a map of one entry. -/
theorem map_next_one (ty : TypeId) (r c1 c2 n : Nat) (hr : w.heap[r]? = some (.mapIter (some b) c1 #[] c2)) (hb : w.heap[b]? = some (.map #[⟨key, val, n⟩] c)) (hn : n < c1) :
    (Instr.next (.pointer (some ⟨r, 0, none⟩)) false ty).run P w = .ok (.tuple #[.bool true, key, val]) (setBlock w r (.mapIter (some b) c1 #[n] c)) := by
  have h0 : ¬ c1 ≤ n := by omega
  simp [Instr.next, getObj, Sem.run, hr, hb, Result.andThen, choose, Question.forced, hn, h0, setObj, setBlock]

theorem map_entry_one (r c1 n c2 : Nat) (hr : w.heap[r]? = some (.mapIter (some b) c1 #[n] c2)) (hb : w.heap[b]? = some (.map #[⟨key, val, n⟩] c2)) :
    (Instr.entry (.pointer (some ⟨r, 0, none⟩))).run P w = .ok (.tuple #[key, val]) w :=
  run_entry_at w r b c1 #[] #[⟨key, val, n⟩] c2 ⟨key, val, n⟩ hr hb (by simp) (by simp)

theorem map_clone (hb : w.heap[b]? = some (.map es c)) : (Extern.MapsClone.clone #[.iface t (.map (some b))]).run P w = .ok (.iface t (.map (some w.heap.size))) (w.alloc (.map es c)) := by
  have e : Extern.MapsClone.clone #[.iface t (.map (some b))] = (getObj b >>= fun o => match o with
      | .map entries clock => (newObj (.map entries clock) >>= fun n => pure (.iface t (.map (some n))))
      | _ => stuck _) := rfl
  rw [e]
  simp [MapKept.run_getObj_map hb, Result.andThen]
end
end Go.Proofs.YtkbilipgidcgeaaGreatDoor
