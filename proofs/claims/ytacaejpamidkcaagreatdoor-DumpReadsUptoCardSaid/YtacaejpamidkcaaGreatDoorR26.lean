/- wire: put, Num, Int, Text. -/
import Derived.Test.YtacaejpamidkcaaGreatDoorR25
set_option linter.unusedVariables false
set_option linter.unusedSimpArgs false
set_option maxRecDepth 100000
set_option maxHeartbeats 2000000
namespace Go.Proofs.YtacaejpamidkcaaGreatDoor
section
open Go.RowKit Wire
attribute [local go_sem] ak_ af_
theorem qi_ : ∀ (k m : Nat), m < 128 ^ (k + 1) → (numL m).length ≤ k + 1
 | 0, m, h => by rw [cj_ (by simpa using h)]; simp
 | k + 1, m, h => by
  by_cases hs : m < 128
  · rw [cj_ hs]; simp
  · rw [g1_ hs, List.length_cons]
    have := qi_ k (m / 128) (by rw [Nat.pow_succ] at h; exact Nat.div_lt_of_lt_mul (by rw [Nat.mul_comm]; exact h))
    omega
theorem b0_ {m : Nat} (h : m < 18446744073709551616) : (numL m).length ≤ 10 := by
 refine qi_ 9 m ?_
 have e : (128 : Nat) ^ (9 + 1) = 1180591620717411303424 := by decide
 omega
theorem wput (m : Nat) (hm : m < 18446744073709551616) (w : World) :
 Calls Tryz.prog 45 #[.slice none 0 0, .int .u64 m] w fun e w' => Below w.heap.size w w' ∧ ∃ v, e = .returned v ∧ w'.ownsRow w.heap.size 5 1 v (numL m).length (byteCells (numL m)) := by
 obtain ⟨i0, hi, hz0, hz1, hz2⟩ := info_parts fj_
 have hl := b0_ hm
 have HI := h4_ hi hz0 hz1 hz2
 clear hi hz0 hz1 hz2
 go_enter Tryz.func45, Tryz.ntmps45
 go_wp2_with fail
 go_loopw [0, 1] (fun b i wr => ∃ (q : Nat) (bs : List UInt8), i = .int .u64 q ∧ bs ++ numL q = numL m ∧ q ≤ m ∧ wr.ownsRow w.heap.size 5 1 b bs.length (byteCells bs) ∧ Below w.heap.size w wr) (fun _ i _ => (RowKit.intOf i).toNat)
 case atStart => exact ⟨m, [], rfl, rfl, Nat.le_refl _, World.ownsRow_nil _ _ _ _, Below.refl _ _⟩
 case round =>
  obtain ⟨q, bs, rfl, hq, hqm, hrow, hb⟩ := hrel
  have hbl : bs.length ≤ 10 := by
   have := congrArg List.length hq
   rw [List.length_append] at this
   omega
  have HB := h3_ hrow hb hq
  have lw := hb.size
  clear hrow hb hq
  by_cases hlt : q < 128
  · have h1 : ¬ (128 : Int) ≤ (q : Int) := by omega
    go_wp2_with (at_builtin; refine wpList_append_lies _ rfl _ _ _ rfl w.heap.size 5 i0 (.int .u8 0) 1 1 Tryz.underlying75 HI.out.1 HI.out.2.1 HI.out.2.2.1 HI.out.2.2.2 rfl (by omega) _ _ _ rfl (HB.out.1.alloc _) ⟨wr.heap.size, 0, none⟩ 1 1 [.int .u8 (q : Int)] rfl rfl (World.news_of_block (cs := #[.int .u8 (q : Int)]) (t := 5) (fr := (0, 0)) (heap_alloc_new wr _)) (by simp [Value.oneCell']) (by omega) (by unfold maxLen; omega) (by omega) (by simp; omega) (wr.heap.size + 1) (by simp) ?_)
    intro g1 cap1 w1 hown1 hgrow hat hlt1
    have HG := h4_ hown1 hgrow hat hlt1
    clear hown1 hgrow hat hlt1
    go_wp2
    go_ret
    obtain ⟨hown1, hgrow, hat, hlt1⟩ := HG.out
    obtain ⟨hrow, hb, hq⟩ := HB.out
    refine ⟨((hb.alloc (by omega) _).grown hgrow (by simp; omega) (fun b hb' => (hrow.lt b hb').1)), _, rfl, ?_⟩
    rw [← hq, cj_ hlt, List.length_append]
    unfold byteCells at hown1 ⊢
    rw [List.map_append]
    have e : (UInt8.ofNat q).toNat = q := by simp [UInt8.toNat_ofNat']; omega
    simp only [List.map_cons, List.map_nil, e, List.length_cons, List.length_nil]
    exact hown1
  · have h1 : (128 : Int) ≤ (q : Int) := by omega
    have h2 : bits .or .u8 ((q : Int) % 128) 128 = ((UInt8.ofNat (q % 128 + 128)).toNat : Int) := by
     rw [← w0_]
     congr 1
    have h3 : IntKind.u64.wrap ((q : Int).tdiv 128) = ((q / 128 : Nat) : Int) := by rw [Int.tdiv_eq_ediv_of_nonneg (by omega), IntKind.wrap_u64]; omega
    obtain ⟨c, hc⟩ : ∃ c, c = UInt8.ofNat (q % 128 + 128) := ⟨_, rfl⟩
    rw [← hc] at h2
    have HC := h1_ hc
    clear hc
    go_wp2_with (at_builtin; refine wpList_append_lies _ rfl _ _ _ rfl w.heap.size 5 i0 (.int .u8 0) 1 1 Tryz.underlying75 HI.out.1 HI.out.2.1 HI.out.2.2.1 HI.out.2.2.2 rfl (by omega) _ _ _ rfl (HB.out.1.alloc _) ⟨wr.heap.size, 0, none⟩ 1 1 [.int .u8 (c.toNat : Int)] rfl rfl (World.news_of_block (cs := #[.int .u8 (c.toNat : Int)]) (t := 5) (fr := (0, 0)) (heap_alloc_new wr _)) (by simp [Value.oneCell']) (by omega) (by unfold maxLen; omega) (by omega) (by simp; omega) (wr.heap.size + 1) (by simp) ?_)
    intro g1 cap1 w1 hown1 hgrow hat hlt1
    have HG := h4_ hown1 hgrow hat hlt1
    clear hown1 hgrow hat hlt1
    go_wp2
    go_roundw
    case rel =>
     obtain ⟨hown1, hgrow, hat, hlt1⟩ := HG.out
     obtain ⟨hrow, hb, hq⟩ := HB.out
     refine ⟨q / 128, bs ++ [c], rfl, ?_, by omega, ?_, ((hb.alloc (by omega) _).grown hgrow (by simp; omega) (fun b hb' => (hrow.lt b hb').1))⟩
     · rw [← hq, g1_ hlt, HC.out, List.append_assoc]; rfl
     · unfold byteCells at hown1 ⊢
       rw [List.length_append, List.map_append]
       exact hown1
    case measure => simp [RowKit.intOf]; omega
theorem qj_ {v : Value} {l : List UInt8} {w : World} {b : Nat} (h : w.ownsRow b 5 1 v l.length (byteCells l)) : (convert 75 9 v).run Tryz.prog w = .ok (.string ⟨l.toArray⟩) w := by
 rcases h.2 with ⟨rfl, h0⟩ | ⟨g, cap, cur, rfl, _, hg, _⟩
 · obtain rfl : l = [] := List.eq_nil_of_length_eq_zero h0
   kernel_rfl
 · exact run_convert_bytes_back (P := Tryz.prog) w 75 9 5 ⟨g, 0, none⟩ cap l Tryz.underlying75 Tryz.underlying5 Tryz.underlying9 (fun j hj => by
    have := (row_cell h j (u := .int .u8 (l[j].toNat : Int)) (by unfold byteCells; rw [List.getElem?_map, List.getElem?_eq_getElem hj]; rfl)).1
    rw [hx_]; exact this)
theorem wnum (n : Nat) (hn : n ≤ 9223372036854775807) (w : World) :
 Calls Tryz.prog 15 #[.int .i64 n] w fun e w' => Below w.heap.size w w' ∧ e = .returned (strB (numL n)) := by
 have h0 : ¬ (n : Int) < 0 := by omega
 have h1 : IntKind.u64.wrap (n : Int) = (n : Int) := by rw [IntKind.wrap_u64]; omega
 go_enter Tryz.func15, Tryz.ntmps15
 go_wp2_with fail
 go_at_call 45
 refine (wput n (by omega) w).mono ?_
 rintro e w1 ⟨hb1, v, rfl, hown⟩
 have hc := qj_ hown
 have HB := h1_ hb1
 clear hb1 hown h0 h1
 go_wp2
 go_ret
 exact ⟨HB.out, rfl⟩
theorem wint (n : Int) (hn : I64 n) (w : World) :
 Calls Tryz.prog 46 #[.int .i64 n] w fun e w' => Below w.heap.size w w' ∧ e = .returned (strB (intL n)) := by
 have hz := wz_ n hn
 have hzl := qf_ hn
 go_enter Tryz.func46, Tryz.ntmps46
 go_wp2_with fail
 go_at_call 45
 refine (wput (zig n) hzl w).mono ?_
 rintro e w1 ⟨hb1, v, rfl, hown⟩
 have hc := qj_ hown
 have HB := h1_ hb1
 clear hb1 hown hz hzl
 go_wp2
 go_ret
 exact ⟨HB.out, rfl⟩
theorem lr_ (l : List UInt8) (hl : l.length ≤ 1099511627776) (w : World) :
 Calls Tryz.prog 16 #[strB l] w fun e w' => Below w.heap.size w w' ∧ e = .returned (strB (bm_ l)) := by
 unfold strB
 obtain ⟨S, hS⟩ : ∃ S, S = (⟨l.toArray⟩ : ByteArray) := ⟨_, rfl⟩
 have hsz : S.size = l.length := by rw [hS]; rfl
 have HS := h1_ hS
 rw [← hS]
 clear hS
 go_enter Tryz.func16, Tryz.ntmps16
 go_wp2_with fail
 go_at_call 15
 refine (wnum l.length (by omega) w).mono ?_
 rintro e w1 ⟨hb1, rfl⟩
 unfold strB
 have hn := b0_ (m := l.length) (by omega)
 obtain ⟨N, hN⟩ : ∃ N, N = (⟨(numL l.length).toArray⟩ : ByteArray) := ⟨_, rfl⟩
 have hnz : N.size = (numL l.length).length := by rw [hN]; rfl
 have HN := h2_ hN hb1
 rw [← hN]
 have hcat : ¬ 9223372036854775807 < N.size + S.size := by omega
 clear hN hb1 hsz hnz hn
 go_wp2
 go_ret
 refine ⟨HN.out.2, ?_⟩
 rw [HN.out.1, HS.out]
 unfold bm_
 congr 2
end
end Go.Proofs.YtacaejpamidkcaaGreatDoor
