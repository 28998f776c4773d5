/- space: find. -/
import Derived.BigRegion
import Derived.Test.YtkbilipgidcgeaaGreatDoorH02
import Derived.Test.YtkbilipgidcgeaaGreatDoorH03
set_option linter.unusedVariables false
set_option linter.unusedSimpArgs false
namespace Go.Proofs.YtkbilipgidcgeaaGreatDoor
open Go.RowKit

attribute [local go_sem] ext_cell ext_frozen

/-- The result of find that has found the part p. -/
def hasB (p : Part) (a n : Int) : Bool := decide (a - p.at_ < p.size) && decide (n ≤ p.size - (a - p.at_))

/-- The part number k is the last one that begins at an address or below it. -/
structure LastAt (ps : List Part) (a : Int) (k : Nat) : Prop where
  lt : k < ps.length
  le : (ps[k]).at_ ≤ a
  next : ∀ j (hj : j < ps.length), k < j → a < (ps[j]).at_

theorem LastAt.idx {ps : List Part} {a : Int} {k : Nat} (h : LastAt ps a k) (hs : SortedAt ps) {i : Nat} (hi : IdxAt ps a i) :
    ((ps[k]'h.lt).at_ = a → i = k) ∧ ((ps[k]'h.lt).at_ ≠ a → i = k + 1) := by
  obtain ⟨hk, hk1, hk2⟩ := h
  obtain ⟨h1, h2, h3⟩ := hi
  rcases Nat.lt_trichotomy i k with h | h | h
  · have := h3 i (by omega) (Nat.le_refl _)
    have := hs i k (by omega) hk h
    omega
  · subst h
    have := h3 i hk (Nat.le_refl _)
    exact ⟨fun _ => rfl, fun h => by omega⟩
  · have hne : ¬ (k + 1 < i) := fun hlt => by
      have h4 := hk2 (k + 1) (by omega) (by omega)
      have := h2 (k + 1) (by omega) hlt
      omega
    have := h2 k hk (by omega)
    exact ⟨fun h => by omega, fun _ => by omega⟩

theorem search_hit (s : Nat) (pv : Value) (ps : List Part) (a : Int) (w : World) (hA : AreasOk ps) (hsp : SpaceAt w s pv ps) (k : Nat) (hk : LastAt ps a k) (he : (ps[k]'hk.lt).at_ = a) :
    Calls Tryz.prog 75 #[.pointer (some ⟨s, 0, none⟩), .int .i64 a] w fun e w' =>
      Below w.heap.size w w' ∧ e = .returned (.tuple #[.int .i64 k, .bool true]) :=
  (search_any s pv ps a w hA hsp).mono fun e w' ⟨hb, i, hi, h⟩ => by
    obtain rfl := (hk.idx hA.sorted hi).1 he
    exact ⟨hb, by rw [h]; simp [hk.lt, he]⟩

theorem search_miss (s : Nat) (pv : Value) (ps : List Part) (a : Int) (w : World) (hA : AreasOk ps) (hsp : SpaceAt w s pv ps) (k : Nat) (hk : LastAt ps a k) (he : (ps[k]'hk.lt).at_ ≠ a) :
    Calls Tryz.prog 75 #[.pointer (some ⟨s, 0, none⟩), .int .i64 a] w fun e w' =>
      Below w.heap.size w w' ∧ e = .returned (.tuple #[.int .i64 ((k : Int) + 1), .bool false]) :=
  (search_any s pv ps a w hA hsp).mono fun e w' ⟨hb, i, hi, h⟩ => by
    have hi' := (hk.idx hA.sorted hi).2 he
    refine ⟨hb, ?_⟩
    rw [h, hi']
    have : ¬ ∃ h : k + 1 < ps.length, (ps[k + 1]).at_ = a := fun ⟨h', e'⟩ => by have := hk.next (k + 1) h' (by omega); omega
    simp only [this, decide_false]
    simp

/-- Nothing begins at an address or below it. -/
theorem search_front (s : Nat) (pv : Value) (ps : List Part) (a : Int) (w : World) (hA : AreasOk ps) (hsp : SpaceAt w s pv ps) (hk : ∀ p ∈ ps, a < p.at_) :
    Calls Tryz.prog 75 #[.pointer (some ⟨s, 0, none⟩), .int .i64 a] w fun e w' =>
      Below w.heap.size w w' ∧ e = .returned (.tuple #[.int .i64 0, .bool false]) :=
  (search_any s pv ps a w hA hsp).mono fun e w' ⟨hb, i, ⟨h1, h2, h3⟩, h⟩ => by
    obtain rfl : i = 0 := by
      rcases Nat.eq_zero_or_pos i with h0 | h0
      · exact h0
      · have hl : 0 < ps.length := by omega
        have := h2 0 hl h0
        have := hk _ (List.getElem_mem hl)
        omega
    refine ⟨hb, ?_⟩
    rw [h]
    have : ¬ ∃ h : 0 < ps.length, (ps[0]).at_ = a := fun ⟨h', e'⟩ => by have := hk _ (List.getElem_mem h'); omega
    simp only [this, decide_false]
    rfl

set_option maxRecDepth 100000 in
set_option maxHeartbeats 1000000 in
theorem find_some (s g cap : Nat) (ps : List Part) (a n : Int) (w : World) (hA : AreasOk ps) (hsp : SpaceAt w s (.slice (some ⟨g, 0, none⟩) ps.length cap) ps)
    (k : Nat) (hk : LastAt ps a k) (ha : a ≤ 9223372036854775807) :
    Calls Tryz.prog 31 #[.pointer (some ⟨s, 0, none⟩), .int .i64 a, .int .i64 n] w fun e w' =>
      Below w.heap.size w w' ∧ e = .returned (.tuple #[partV (ps[k]'hk.lt), .bool (hasB (ps[k]'hk.lt) a n)]) := by
  have hc := cell_of_one hsp.head
  have hls := lt_of_block hsp.head
  have hfew := hA.few
  have hkl := hk.lt
  have hk1 := hk.le
  obtain ⟨p, hp⟩ : ∃ p, p = ps[k] := ⟨_, rfl⟩
  have hP : PartsAt w g ps := fun j u hj => by have := hsp.row.cells (g := g) rfl j u hj; simpa [addr_add] using this
  have hg0 : g < w.heap.size := (hsp.row.lt g rfl).2
  obtain ⟨d0, d1, d2, d3, d4, d5⟩ := hP.six k hkl
  rw [← hp] at d0 d1 d2 d3 d4 d5 hk1 ⊢
  unfold bytesV at d5
  have hpe := hA.each p (by rw [hp]; exact List.getElem_mem hkl)
  obtain ⟨e1, e2, e3, e4, e5⟩ := hpe
  have HA := Lib.hid hA
  have HP := Lib.hid hp
  have HK := Lib.hid hk
  have HS := Lib.hid hsp
  clear hA hp hk hsp hP e2
  unfold partV bytesV
  by_cases heq : p.at_ = a
  · by_cases hin : a - p.at_ < p.size
    · have hh : hasB p a n = decide (n ≤ p.size - (a - p.at_)) := by simp [hasB, hin]
      rw [hh]
      have HE := Lib.hid heq
      clear hh heq
      go_enter Tryz.func31, Tryz.ntmps31
      go_wp2_with (go_at_call 75; refine (search_hit s _ ps _ _ HA.out (HS.out.below ((Below.refl _ _).alloc (Nat.le_refl _) _)) k HK.out (by rw [← HP.out]; exact HE.out)).mono ?_; rintro e w1 ⟨hb1, rfl⟩; have hr := bcell hb1; have hsz1 := hb1.size; simp at hsz1; have hn1 := new_block hb1; have HN1 := Lib.hid hn1; clear hn1)
      refine name_world fun W hW => ?_
      have hn2 := block_old (o' := .cells #[.int .i64 p.at_, .int .i64 p.size, .int .i64 p.kind, .int .i64 p.owner, .int .i64 p.mod, .slice (some ⟨p.blk, 0, none⟩) p.size.toNat p.cap] 107) HN1.out
      have hn3 := heap_alloc_new w1 (.cells #[.int .i64 p.at_, .int .i64 p.size, .int .i64 p.kind, .int .i64 p.owner, .int .i64 p.mod, .slice (some ⟨p.blk, 0, none⟩) p.size.toNat p.cap] 107)
      rw [hW] at hn2 hn3
      (have c0 := cell_l hn2 0 rfl; have f0 := free_in hn2 0; have c1 := cell_l hn2 1 rfl; have f1 := free_in hn2 1; have c2 := cell_l hn2 2 rfl; have f2 := free_in hn2 2; have c3 := cell_l hn2 3 rfl; have f3 := free_in hn2 3; have c4 := cell_l hn2 4 rfl; have f4 := free_in hn2 4; have c5 := cell_l hn2 5 rfl; have f5 := free_in hn2 5)
      (have c0 := cell_l hn3 0 rfl; have f0 := free_in hn3 0; have c1 := cell_l hn3 1 rfl; have f1 := free_in hn3 1; have c2 := cell_l hn3 2 rfl; have f2 := free_in hn3 2; have c3 := cell_l hn3 3 rfl; have f3 := free_in hn3 3; have c4 := cell_l hn3 4 rfl; have f4 := free_in hn3 4; have c5 := cell_l hn3 5 rfl; have f5 := free_in hn3 5)
      go_region
      go_wp2
      have hn4 := block_drew (block_set (block_set (block_set (block_set (block_set (block_set hn2 0 (.int .i64 p.at_)) 1 (.int .i64 p.size)) 2 (.int .i64 p.kind)) 3 (.int .i64 p.owner)) 4 (.int .i64 p.mod)) 5 (.slice (some ⟨p.blk, 0, none⟩) p.size.toNat p.cap))
      have hb0 := below_call ((Below.refl _ _).alloc (Nat.le_refl _) _) hb1
      have hb : Below w.heap.size w W := by rw [← hW]; go_grown
      have hb4 : Below w.heap.size w (((((((W.setCell ⟨w.heap.size, 0, none⟩ (.int .i64 p.at_)).setCell ⟨w.heap.size, 1, none⟩ (.int .i64 p.size)).setCell ⟨w.heap.size, 2, none⟩ (.int .i64 p.kind)).setCell ⟨w.heap.size, 3, none⟩ (.int .i64 p.owner)).setCell ⟨w.heap.size, 4, none⟩ (.int .i64 p.mod)).setCell ⟨w.heap.size, 5, none⟩ (.slice (some ⟨p.blk, 0, none⟩) p.size.toNat p.cap))).drew := by
        go_grown
      refine name_world fun W4 hW4 => ?_
      rw [hW4] at hn4 hb4
      (have c0 := cell_l hn4 0 rfl; have f0 := free_in hn4 0; have c1 := cell_l hn4 1 rfl; have f1 := free_in hn4 1; have c2 := cell_l hn4 2 rfl; have f2 := free_in hn4 2; have c3 := cell_l hn4 3 rfl; have f3 := free_in hn4 3; have c4 := cell_l hn4 4 rfl; have f4 := free_in hn4 4; have c5 := cell_l hn4 5 rfl; have f5 := free_in hn4 5)
      refine bodyPost_ret (v := .tuple #[.agg #[.int .i64 p.at_, .int .i64 p.size, .int .i64 p.kind, .int .i64 p.owner, .int .i64 p.mod, .slice (some ⟨p.blk, 0, none⟩) p.size.toNat p.cap], .bool (decide (n ≤ p.size - (a - p.at_)))]) (by simp [results, Tryz.results31, go_sem, c0, c1, c2, c3, c4, c5]) rfl ⟨hb4, rfl⟩
    · have hh : hasB p a n = false := by simp [hasB, hin]
      have hin2 : decide (a - p.at_ < p.size) = false := by simp [hin]
      have hin3 : ¬ a - p.at_ < p.size := hin
      rw [hh]
      have HE := Lib.hid heq
      clear hh heq
      go_enter Tryz.func31, Tryz.ntmps31
      go_wp2_with (go_at_call 75; refine (search_hit s _ ps _ _ HA.out (HS.out.below ((Below.refl _ _).alloc (Nat.le_refl _) _)) k HK.out (by rw [← HP.out]; exact HE.out)).mono ?_; rintro e w1 ⟨hb1, rfl⟩; have hr := bcell hb1; have hsz1 := hb1.size; simp at hsz1; have hn1 := new_block hb1; have HN1 := Lib.hid hn1; clear hn1)
      refine name_world fun W hW => ?_
      have hn2 := block_old (o' := .cells #[.int .i64 p.at_, .int .i64 p.size, .int .i64 p.kind, .int .i64 p.owner, .int .i64 p.mod, .slice (some ⟨p.blk, 0, none⟩) p.size.toNat p.cap] 107) HN1.out
      have hn3 := heap_alloc_new w1 (.cells #[.int .i64 p.at_, .int .i64 p.size, .int .i64 p.kind, .int .i64 p.owner, .int .i64 p.mod, .slice (some ⟨p.blk, 0, none⟩) p.size.toNat p.cap] 107)
      rw [hW] at hn2 hn3
      (have c0 := cell_l hn2 0 rfl; have f0 := free_in hn2 0; have c1 := cell_l hn2 1 rfl; have f1 := free_in hn2 1; have c2 := cell_l hn2 2 rfl; have f2 := free_in hn2 2; have c3 := cell_l hn2 3 rfl; have f3 := free_in hn2 3; have c4 := cell_l hn2 4 rfl; have f4 := free_in hn2 4; have c5 := cell_l hn2 5 rfl; have f5 := free_in hn2 5)
      (have c0 := cell_l hn3 0 rfl; have f0 := free_in hn3 0; have c1 := cell_l hn3 1 rfl; have f1 := free_in hn3 1; have c2 := cell_l hn3 2 rfl; have f2 := free_in hn3 2; have c3 := cell_l hn3 3 rfl; have f3 := free_in hn3 3; have c4 := cell_l hn3 4 rfl; have f4 := free_in hn3 4; have c5 := cell_l hn3 5 rfl; have f5 := free_in hn3 5)
      go_region
      go_wp2
      have hn4 := block_drew (block_set (block_set (block_set (block_set (block_set (block_set hn2 0 (.int .i64 p.at_)) 1 (.int .i64 p.size)) 2 (.int .i64 p.kind)) 3 (.int .i64 p.owner)) 4 (.int .i64 p.mod)) 5 (.slice (some ⟨p.blk, 0, none⟩) p.size.toNat p.cap))
      have hb0 := below_call ((Below.refl _ _).alloc (Nat.le_refl _) _) hb1
      have hb : Below w.heap.size w W := by rw [← hW]; go_grown
      have hb4 : Below w.heap.size w (((((((W.setCell ⟨w.heap.size, 0, none⟩ (.int .i64 p.at_)).setCell ⟨w.heap.size, 1, none⟩ (.int .i64 p.size)).setCell ⟨w.heap.size, 2, none⟩ (.int .i64 p.kind)).setCell ⟨w.heap.size, 3, none⟩ (.int .i64 p.owner)).setCell ⟨w.heap.size, 4, none⟩ (.int .i64 p.mod)).setCell ⟨w.heap.size, 5, none⟩ (.slice (some ⟨p.blk, 0, none⟩) p.size.toNat p.cap))).drew := by
        go_grown
      refine name_world fun W4 hW4 => ?_
      rw [hW4] at hn4 hb4
      (have c0 := cell_l hn4 0 rfl; have f0 := free_in hn4 0; have c1 := cell_l hn4 1 rfl; have f1 := free_in hn4 1; have c2 := cell_l hn4 2 rfl; have f2 := free_in hn4 2; have c3 := cell_l hn4 3 rfl; have f3 := free_in hn4 3; have c4 := cell_l hn4 4 rfl; have f4 := free_in hn4 4; have c5 := cell_l hn4 5 rfl; have f5 := free_in hn4 5)
      refine bodyPost_ret (v := .tuple #[.agg #[.int .i64 p.at_, .int .i64 p.size, .int .i64 p.kind, .int .i64 p.owner, .int .i64 p.mod, .slice (some ⟨p.blk, 0, none⟩) p.size.toNat p.cap], .bool (false)]) (by simp [results, Tryz.results31, go_sem, c0, c1, c2, c3, c4, c5]) rfl ⟨hb4, rfl⟩
  · by_cases hin : a - p.at_ < p.size
    · have hh : hasB p a n = decide (n ≤ p.size - (a - p.at_)) := by simp [hasB, hin]
      rw [hh]
      have HE := Lib.hid heq
      clear hh heq
      go_enter Tryz.func31, Tryz.ntmps31
      go_wp2_with (go_at_call 75; refine (search_miss s _ ps _ _ HA.out (HS.out.below ((Below.refl _ _).alloc (Nat.le_refl _) _)) k HK.out (by rw [← HP.out]; exact HE.out)).mono ?_; rintro e w1 ⟨hb1, rfl⟩; have hr := bcell hb1; have hsz1 := hb1.size; simp at hsz1; have hn1 := new_block hb1; have HN1 := Lib.hid hn1; clear hn1)
      refine name_world fun W hW => ?_
      have hn2 := block_old (o' := .cells #[.int .i64 p.at_, .int .i64 p.size, .int .i64 p.kind, .int .i64 p.owner, .int .i64 p.mod, .slice (some ⟨p.blk, 0, none⟩) p.size.toNat p.cap] 107) HN1.out
      have hn3 := heap_alloc_new w1 (.cells #[.int .i64 p.at_, .int .i64 p.size, .int .i64 p.kind, .int .i64 p.owner, .int .i64 p.mod, .slice (some ⟨p.blk, 0, none⟩) p.size.toNat p.cap] 107)
      rw [hW] at hn2 hn3
      (have c0 := cell_l hn2 0 rfl; have f0 := free_in hn2 0; have c1 := cell_l hn2 1 rfl; have f1 := free_in hn2 1; have c2 := cell_l hn2 2 rfl; have f2 := free_in hn2 2; have c3 := cell_l hn2 3 rfl; have f3 := free_in hn2 3; have c4 := cell_l hn2 4 rfl; have f4 := free_in hn2 4; have c5 := cell_l hn2 5 rfl; have f5 := free_in hn2 5)
      (have c0 := cell_l hn3 0 rfl; have f0 := free_in hn3 0; have c1 := cell_l hn3 1 rfl; have f1 := free_in hn3 1; have c2 := cell_l hn3 2 rfl; have f2 := free_in hn3 2; have c3 := cell_l hn3 3 rfl; have f3 := free_in hn3 3; have c4 := cell_l hn3 4 rfl; have f4 := free_in hn3 4; have c5 := cell_l hn3 5 rfl; have f5 := free_in hn3 5)
      go_region
      go_wp2
      have hn4 := block_drew (block_set (block_set (block_set (block_set (block_set (block_set hn2 0 (.int .i64 p.at_)) 1 (.int .i64 p.size)) 2 (.int .i64 p.kind)) 3 (.int .i64 p.owner)) 4 (.int .i64 p.mod)) 5 (.slice (some ⟨p.blk, 0, none⟩) p.size.toNat p.cap))
      have hb0 := below_call ((Below.refl _ _).alloc (Nat.le_refl _) _) hb1
      have hb : Below w.heap.size w W := by rw [← hW]; go_grown
      have hb4 : Below w.heap.size w (((((((W.setCell ⟨w.heap.size, 0, none⟩ (.int .i64 p.at_)).setCell ⟨w.heap.size, 1, none⟩ (.int .i64 p.size)).setCell ⟨w.heap.size, 2, none⟩ (.int .i64 p.kind)).setCell ⟨w.heap.size, 3, none⟩ (.int .i64 p.owner)).setCell ⟨w.heap.size, 4, none⟩ (.int .i64 p.mod)).setCell ⟨w.heap.size, 5, none⟩ (.slice (some ⟨p.blk, 0, none⟩) p.size.toNat p.cap))).drew := by
        go_grown
      refine name_world fun W4 hW4 => ?_
      rw [hW4] at hn4 hb4
      (have c0 := cell_l hn4 0 rfl; have f0 := free_in hn4 0; have c1 := cell_l hn4 1 rfl; have f1 := free_in hn4 1; have c2 := cell_l hn4 2 rfl; have f2 := free_in hn4 2; have c3 := cell_l hn4 3 rfl; have f3 := free_in hn4 3; have c4 := cell_l hn4 4 rfl; have f4 := free_in hn4 4; have c5 := cell_l hn4 5 rfl; have f5 := free_in hn4 5)
      refine bodyPost_ret (v := .tuple #[.agg #[.int .i64 p.at_, .int .i64 p.size, .int .i64 p.kind, .int .i64 p.owner, .int .i64 p.mod, .slice (some ⟨p.blk, 0, none⟩) p.size.toNat p.cap], .bool (decide (n ≤ p.size - (a - p.at_)))]) (by simp [results, Tryz.results31, go_sem, c0, c1, c2, c3, c4, c5]) rfl ⟨hb4, rfl⟩
    · have hh : hasB p a n = false := by simp [hasB, hin]
      have hin2 : decide (a - p.at_ < p.size) = false := by simp [hin]
      have hin3 : ¬ a - p.at_ < p.size := hin
      rw [hh]
      have HE := Lib.hid heq
      clear hh heq
      go_enter Tryz.func31, Tryz.ntmps31
      go_wp2_with (go_at_call 75; refine (search_miss s _ ps _ _ HA.out (HS.out.below ((Below.refl _ _).alloc (Nat.le_refl _) _)) k HK.out (by rw [← HP.out]; exact HE.out)).mono ?_; rintro e w1 ⟨hb1, rfl⟩; have hr := bcell hb1; have hsz1 := hb1.size; simp at hsz1; have hn1 := new_block hb1; have HN1 := Lib.hid hn1; clear hn1)
      refine name_world fun W hW => ?_
      have hn2 := block_old (o' := .cells #[.int .i64 p.at_, .int .i64 p.size, .int .i64 p.kind, .int .i64 p.owner, .int .i64 p.mod, .slice (some ⟨p.blk, 0, none⟩) p.size.toNat p.cap] 107) HN1.out
      have hn3 := heap_alloc_new w1 (.cells #[.int .i64 p.at_, .int .i64 p.size, .int .i64 p.kind, .int .i64 p.owner, .int .i64 p.mod, .slice (some ⟨p.blk, 0, none⟩) p.size.toNat p.cap] 107)
      rw [hW] at hn2 hn3
      (have c0 := cell_l hn2 0 rfl; have f0 := free_in hn2 0; have c1 := cell_l hn2 1 rfl; have f1 := free_in hn2 1; have c2 := cell_l hn2 2 rfl; have f2 := free_in hn2 2; have c3 := cell_l hn2 3 rfl; have f3 := free_in hn2 3; have c4 := cell_l hn2 4 rfl; have f4 := free_in hn2 4; have c5 := cell_l hn2 5 rfl; have f5 := free_in hn2 5)
      (have c0 := cell_l hn3 0 rfl; have f0 := free_in hn3 0; have c1 := cell_l hn3 1 rfl; have f1 := free_in hn3 1; have c2 := cell_l hn3 2 rfl; have f2 := free_in hn3 2; have c3 := cell_l hn3 3 rfl; have f3 := free_in hn3 3; have c4 := cell_l hn3 4 rfl; have f4 := free_in hn3 4; have c5 := cell_l hn3 5 rfl; have f5 := free_in hn3 5)
      go_region
      go_wp2
      have hn4 := block_drew (block_set (block_set (block_set (block_set (block_set (block_set hn2 0 (.int .i64 p.at_)) 1 (.int .i64 p.size)) 2 (.int .i64 p.kind)) 3 (.int .i64 p.owner)) 4 (.int .i64 p.mod)) 5 (.slice (some ⟨p.blk, 0, none⟩) p.size.toNat p.cap))
      have hb0 := below_call ((Below.refl _ _).alloc (Nat.le_refl _) _) hb1
      have hb : Below w.heap.size w W := by rw [← hW]; go_grown
      have hb4 : Below w.heap.size w (((((((W.setCell ⟨w.heap.size, 0, none⟩ (.int .i64 p.at_)).setCell ⟨w.heap.size, 1, none⟩ (.int .i64 p.size)).setCell ⟨w.heap.size, 2, none⟩ (.int .i64 p.kind)).setCell ⟨w.heap.size, 3, none⟩ (.int .i64 p.owner)).setCell ⟨w.heap.size, 4, none⟩ (.int .i64 p.mod)).setCell ⟨w.heap.size, 5, none⟩ (.slice (some ⟨p.blk, 0, none⟩) p.size.toNat p.cap))).drew := by
        go_grown
      refine name_world fun W4 hW4 => ?_
      rw [hW4] at hn4 hb4
      (have c0 := cell_l hn4 0 rfl; have f0 := free_in hn4 0; have c1 := cell_l hn4 1 rfl; have f1 := free_in hn4 1; have c2 := cell_l hn4 2 rfl; have f2 := free_in hn4 2; have c3 := cell_l hn4 3 rfl; have f3 := free_in hn4 3; have c4 := cell_l hn4 4 rfl; have f4 := free_in hn4 4; have c5 := cell_l hn4 5 rfl; have f5 := free_in hn4 5)
      refine bodyPost_ret (v := .tuple #[.agg #[.int .i64 p.at_, .int .i64 p.size, .int .i64 p.kind, .int .i64 p.owner, .int .i64 p.mod, .slice (some ⟨p.blk, 0, none⟩) p.size.toNat p.cap], .bool (false)]) (by simp [results, Tryz.results31, go_sem, c0, c1, c2, c3, c4, c5]) rfl ⟨hb4, rfl⟩

set_option maxRecDepth 100000 in
set_option maxHeartbeats 1000000 in
theorem find_none (s : Nat) (pv : Value) (ps : List Part) (a n : Int) (w : World) (hA : AreasOk ps) (hsp : SpaceAt w s pv ps) (hk : ∀ p ∈ ps, a < p.at_) :
    Calls Tryz.prog 31 #[.pointer (some ⟨s, 0, none⟩), .int .i64 a, .int .i64 n] w fun e w' =>
      Below w.heap.size w w' ∧ e = .returned (.tuple #[.agg #[.int .i64 0, .int .i64 0, .int .i64 0, .int .i64 0, .int .i64 0, .slice none 0 0], .bool false]) := by
  have hls := lt_of_block hsp.head
  have HA := Lib.hid hA
  have HK := Lib.hid hk
  have HS := Lib.hid hsp
  clear hA hk hsp
  go_enter Tryz.func31, Tryz.ntmps31
  go_wp2_with (go_at_call 75; refine (search_front s _ ps _ _ HA.out (HS.out.below ((Below.refl _ _).alloc (Nat.le_refl _) _)) HK.out).mono ?_; rintro e w1 ⟨hb1, rfl⟩; have hsz1 := hb1.size; simp at hsz1; have hn1 := new_block hb1; (have c0 := cell_l hn1 0 rfl; have f0 := free_in hn1 0; have c1 := cell_l hn1 1 rfl; have f1 := free_in hn1 1; have c2 := cell_l hn1 2 rfl; have f2 := free_in hn1 2; have c3 := cell_l hn1 3 rfl; have f3 := free_in hn1 3; have c4 := cell_l hn1 4 rfl; have f4 := free_in hn1 4; have c5 := cell_l hn1 5 rfl; have f5 := free_in hn1 5))
  have hn4 := block_set (block_set (block_set (block_set (block_set (block_set hn1 0 (.int .i64 0)) 1 (.int .i64 0)) 2 (.int .i64 0)) 3 (.int .i64 0)) 4 (.int .i64 0)) 5 (.slice none 0 0)
  have hb0 := below_call ((Below.refl _ _).alloc (Nat.le_refl _) _) hb1
  have hb4 : Below w.heap.size w ((((((w1.setCell ⟨w.heap.size, 0, none⟩ (.int .i64 0)).setCell ⟨w.heap.size, 1, none⟩ (.int .i64 0)).setCell ⟨w.heap.size, 2, none⟩ (.int .i64 0)).setCell ⟨w.heap.size, 3, none⟩ (.int .i64 0)).setCell ⟨w.heap.size, 4, none⟩ (.int .i64 0)).setCell ⟨w.heap.size, 5, none⟩ (.slice none 0 0)) := by
    go_grown
  refine name_world fun W4 hW4 => ?_
  rw [hW4] at hn4 hb4
  (have c0 := cell_l hn4 0 rfl; have f0 := free_in hn4 0; have c1 := cell_l hn4 1 rfl; have f1 := free_in hn4 1; have c2 := cell_l hn4 2 rfl; have f2 := free_in hn4 2; have c3 := cell_l hn4 3 rfl; have f3 := free_in hn4 3; have c4 := cell_l hn4 4 rfl; have f4 := free_in hn4 4; have c5 := cell_l hn4 5 rfl; have f5 := free_in hn4 5)
  refine bodyPost_ret (v := .tuple #[.agg #[.int .i64 0, .int .i64 0, .int .i64 0, .int .i64 0, .int .i64 0, .slice none 0 0], .bool false]) (by simp [results, Tryz.results31, go_sem, c0, c1, c2, c3, c4, c5]) rfl ⟨hb4, rfl⟩
end Go.Proofs.YtkbilipgidcgeaaGreatDoor
