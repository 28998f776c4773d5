/- space: Copy. space: access, Store of a word. Plain: the number in some bytes, the least first. No program in sight. word.Fits, word.field, isa.imm, isa.field. -/
import Derived.Test.YtkbilipgidcgeaaGreatDoorH08
import Derived.Test.YtkbilipgidcgeaaGreatDoorH09
import Derived.BigRegion
import Derived.WalkKit
import Derived.Laws.BitsAllLaws
import Derived.BigGuardPart
import Derived.Test.YtkbilipgidcgeaaGreatDoorH01
import Derived.Test.YtkbilipgidcgeaaGreatDoorH03
set_option linter.unusedVariables false
set_option linter.unusedSimpArgs false
namespace Go.Proofs.YtkbilipgidcgeaaGreatDoor
open Go.RowKit

attribute [local go_sem] ext_cell ext_frozen
attribute [local go_sem ↓] Go.wp_at_zero Go.wp_at_succ

theorem ownsRow_setAt {w : World} {base : Nat} {e : TypeId} {size g n cap : Nat} {xs : List Value} (h : w.ownsRow base e size (.slice (some ⟨g, 0, none⟩) n cap) n xs) (i : Nat) (u : Value) :
    (w.setCell ⟨g, i, none⟩ u).ownsRow base e size (.slice (some ⟨g, 0, none⟩) n cap) n (xs.set i u) := by
  refine ⟨by simpa using h.1, .inr ?_⟩
  rcases h.2 with ⟨h1, _⟩ | ⟨g', cap', cur, h1, h2, h3, h4, h5, h6, h7⟩
  · cases h1
  · cases h1
    refine ⟨g, cap, (cur.toList.set i u).toArray, rfl, h2, block_set (l := cur.toList) (by simpa using h3) i u, h4, h5, by simpa using h6, ?_⟩
    rw [← h7]
    simp only [List.take_set]

/-- The same part with bytes of its own. -/
def Part.moved (p : Part) (b c : Nat) : Part := { p with blk := b, cap := c }

/-- New parts: as the old ones, but for where their bytes lie. -/
def Moved (ns ps : List Part) : Prop := ns.length = ps.length ∧ ∀ i (h : i < ns.length) (h' : i < ps.length), ∃ b c, ns[i] = (ps[i]).moved b c

theorem byteCells_one' (l : List UInt8) : ∀ u ∈ byteCells l, u.oneCell' = true := by
  intro u hu
  simp [byteCells] at hu
  obtain ⟨b, _, rfl⟩ := hu
  rfl

theorem BytesAt.cell {w : World} {ps : List Part} (h : BytesAt w ps) {p : Part} (hp : p ∈ ps) (j : Nat) (u : Value) (hj : (byteCells p.data)[j]? = some u) : w.cell? ⟨p.blk, j, none⟩ = some u := by
  obtain ⟨h1, h2, cur, h3, h4, h5⟩ := h.2 p hp
  rw [← h5, List.getElem?_take] at hj
  split at hj
  · exact cell_in h3 j (by simpa using hj)
  · cases hj

/-- What the loop of Copy keeps. -/
structure CopyInv (w : World) (c g1 cap1 n : Nat) (ps : List Part) (wr : World) (k : Nat) (ns : List Part) : Prop where
  len : ns.length = k
  moved : ∀ i (h : i < ns.length) (h' : i < ps.length), ∃ b c, ns[i] = (ps[i]).moved b c
  bytes : BytesAt wr ns
  own : ∀ q ∈ ns, w.heap.size ≤ q.blk
  head : wr.heap[c]? = some (.cells #[.slice (some ⟨g1, 0, none⟩) n cap1] 141 (0, 0))
  row : wr.ownsRow w.heap.size 107 6 (.slice (some ⟨g1, 0, none⟩) n cap1) n (partsCells (ns ++ ps.drop k))
  below : Below w.heap.size w wr

theorem CopyInv.step {w wr w2 : World} {o : Obj} {c g1 cap1 g2 cap2 n k : Nat} {ps ns : List Part} {p : Part} (h : CopyInv w c g1 cap1 n ps wr k ns) (hk : k < ps.length) (hp : p = ps[k]) (hsz : (p.data.length : Int) = p.size)
    (hb2 : Below ((wr.alloc o).drew).heap.size ((wr.alloc o).drew) w2)
    (hown2 : w2.ownsRow ((wr.alloc o).drew).heap.size 5 1 (.slice (some ⟨g2, 0, none⟩) p.size.toNat cap2) p.size.toNat (byteCells p.data)) (hpos : 1 ≤ p.size) (hc : c ≠ g1) :
    CopyInv w c g1 cap1 n ps (w2.setCell ⟨g1, k * 6 + 5, none⟩ (.slice (some ⟨g2, 0, none⟩) p.size.toNat cap2)) (k + 1) (ns ++ [p.moved g2 cap2]) := by
  have hb : Below wr.heap.size wr w2 := (((Below.refl wr.heap.size wr).alloc (Nat.le_refl _) o).drew).trans (hb2.mono (by simp))
  have hg1 := h.row.lt g1 rfl
  have hg2 := hown2.lt g2 rfl
  have hg2' : wr.heap.size < g2 := by have := hg2.1; simp at this; omega
  have hbs := h.below.size
  have hrow := h.row
  obtain ⟨cur1, hcur1⟩ : ∃ cur, wr.heap[g1]? = some (.cells cur 107 (0, 0)) := ownsRow_block (ownsRow_to (B' := 0) h.row fun _ _ => Nat.zero_le _) g1 rfl
  have hle : (ns ++ ps.drop k).length = ps.length := by simp [h.len]; omega
  refine ⟨by simp [h.len], ?_, ⟨?_, ?_⟩, ?_, ?_, ?_, ?_⟩
  · intro i hi hi'
    simp at hi
    by_cases hin : i < ns.length
    · rw [List.getElem_append_left hin]
      exact h.moved i hin hi'
    · have : i = k := by have := h.len; omega
      subst this
      rw [List.getElem_append_right (by omega)]
      exact ⟨g2, cap2, by simp [hp]⟩
  · rw [List.map_append, List.nodup_append]
    refine ⟨h.bytes.1, by simp, ?_⟩
    intro b hb' d hd e
    simp at hd
    obtain ⟨q, hq, rfl⟩ := List.mem_map.1 hb'
    obtain ⟨_, _, cur, h3, _⟩ := h.bytes.2 q hq
    have := lt_of_block h3
    rw [hd] at e
    exact absurd e (by show q.blk ≠ g2; omega)
  · intro q hq
    rcases List.mem_append.1 hq with hq | hq
    · obtain ⟨a1, a2, cur, a3, a4, a5⟩ := h.bytes.2 q hq
      refine ⟨a1, a2, cur, block_other ((hb.block _ (lt_of_block a3)).trans a3) _ _ ?_, a4, a5⟩
      intro e
      have e' : q.blk = g1 := e
      rw [e', hcur1] at a3
      simp at a3
    · simp at hq
      subst hq
      rcases hown2.2 with ⟨h0, _⟩ | ⟨g', cap', cur, h0, a2, a3, a4, _, a5, a6⟩
      · cases h0
      · cases h0
        refine ⟨hsz, by show p.data.length ≤ cap2; omega, cur, block_other a3 _ _ (by show g2 ≠ g1; omega), by show cur.size = cap2; omega, ?_⟩
        show cur.toList.take p.data.length = byteCells p.data
        rw [← a6]
        congr 1
        omega
  · intro q hq
    rcases List.mem_append.1 hq with hq | hq
    · exact h.own q hq
    · simp at hq
      subst hq
      show w.heap.size ≤ g2
      omega
  · exact block_other ((hb.block _ (lt_of_block h.head)).trans h.head) _ _ hc
  · have hr2 : w2.ownsRow w.heap.size 107 6 (.slice (some ⟨g1, 0, none⟩) n cap1) n (partsCells (ns ++ ps.drop k)) := by
      refine ⟨hrow.1, .inr ?_⟩
      rcases hrow.2 with ⟨h0, _⟩ | ⟨g', cap', cur, h0, a2, a3, a4⟩
      · cases h0
      · exact ⟨g', cap', cur, h0, a2, (hb.block _ (lt_of_block a3)).trans a3, a4⟩
    have := ownsRow_setAt hr2 (k * 6 + 5) (.slice (some ⟨g2, 0, none⟩) p.size.toNat cap2)
    have he : (partsCells (ns ++ ps.drop k)).set (k * 6 + 5) (.slice (some ⟨g2, 0, none⟩) p.size.toNat cap2) = partsCells (ns ++ [p.moved g2 cap2] ++ ps.drop (k + 1)) := by
      have hd : ps.drop k = p :: ps.drop (k + 1) := by rw [hp]; exact List.drop_eq_getElem_cons hk
      have hl : (partsCells ns).length = k * 6 := by rw [partsCells_length, h.len]
      have e1 : partsCells (ns ++ ps.drop k) = partsCells ns ++ (partCells p ++ partsCells (ps.drop (k + 1))) := by rw [hd]; simp [partsCells]
      have e2 : partsCells (ns ++ [p.moved g2 cap2] ++ ps.drop (k + 1)) = partsCells ns ++ (partCells (p.moved g2 cap2) ++ partsCells (ps.drop (k + 1))) := by simp [partsCells]
      rw [e1, e2, List.set_append_right _ _ (by omega), hl, Nat.add_sub_cancel_left]
      congr 1
    rw [← he]
    exact this
  · exact (h.below.trans (hb.mono hbs)).setCell hg1.1 _

set_option maxRecDepth 100000 in
set_option maxHeartbeats 2000000 in
theorem copy_row (s g cap : Nat) (ps : List Part) (w : World) (hA : AreasOk ps) (hsp : SpaceAt w s (.slice (some ⟨g, 0, none⟩) ps.length cap) ps) (hne : 0 < ps.length) :
    Calls Tryz.prog 34 #[.pointer (some ⟨s, 0, none⟩)] w fun e w' =>
      Below w.heap.size w w' ∧ ∃ s' pv' ns, e = .returned (.pointer (some ⟨s', 0, none⟩)) ∧ SpaceAt w' s' pv' ns ∧ Moved ns ps ∧ ∀ b, spaceFoot s' pv' ns b → w.heap.size ≤ b := by
  have hc := cell_of_one hsp.head
  have hls := lt_of_block hsp.head
  have hfew := hA.few
  have hP : PartsAt w g ps := fun j u hj => by have := hsp.row.cells (g := g) rfl j u hj; simpa [addr_add] using this
  have hg0 : g < w.heap.size := (hsp.row.lt g rfl).2
  have HA := Lib.hid (And.intro hA (And.intro hsp hP))
  have hrl := hsp.row.1
  clear hA hsp hP
  go_enter Tryz.func34, Tryz.ntmps34
  go_wp2_with (go_at_call 76; refine (clone_parts g ps.length cap (partsCells ps) _ (fun j u hj => by have := HA.out.2.1.row.cells (g := g) rfl j u hj; simpa [addr_add] using this) hrl ?c1 hne (by omega) hg0).mono ?_; rotate_right; rintro e w1 ⟨hb1, g1, cap1, rfl, hown1⟩)
  case c1 =>
    intro u hu
    unfold partsCells at hu
    obtain ⟨p, hp, hu⟩ := List.mem_flatMap.1 hu
    exact partCells_one p u hu
  have hs1 := hb1.size
  have hg1 := hown1.lt g1 rfl
  have HO1 := Lib.hid (And.intro hb1 hown1)
  clear hb1 hown1
  go_loopw [18] (fun i wr => ∃ (k : Nat) (ns : List Part), k ≤ ps.length ∧ i = .int .i64 k ∧ CopyInv w w1.heap.size g1 cap1 ps.length ps wr k ns) (fun i _ => ps.length - (intOf i).toNat)
  case atStart =>
    refine ⟨0, [], Nat.zero_le _, rfl, rfl, fun i h => by simp at h, ⟨by simp, by simp⟩, by simp, heap_alloc_new w1 _, ?_, HO1.out.1.alloc hs1 _⟩
    simpa using HO1.out.2.alloc _
  case round =>
    obtain ⟨k, ns, hk, rfl, hinv⟩ := hrel
    by_cases hlt : k < ps.length
    · obtain ⟨p, hp⟩ : ∃ p, p = ps[k] := ⟨_, rfl⟩
      have hmem : p ∈ ps := by rw [hp]; exact List.getElem_mem hlt
      obtain ⟨e1, e2, e3, e4, e5⟩ := HA.out.1.each p hmem
      obtain ⟨b1, b2, cur, b3, b4, b5⟩ := HA.out.2.1.bytes.2 p hmem
      have hbl := lt_of_block b3
      have hbl2 : p.blk < wr.heap.size := by have := hinv.below.size; omega
      have hc1 := cell_of_one hinv.head
      have hcl := lt_of_block hinv.head
      have hg1r := hinv.row.lt g1 rfl
      have hPr : PartsAt wr g1 (ns ++ ps.drop k) := fun j u hj => by have := hinv.row.cells (g := g1) rfl j u hj; simpa [addr0] using this
      have hkl : k < (ns ++ ps.drop k).length := by simp [hinv.len]; omega
      obtain ⟨d0, d1, d2, d3, d4, d5⟩ := hPr.six k hkl
      have hpk : (ns ++ ps.drop k)[k] = p := by
        rw [List.getElem_append_right (by rw [hinv.len]; exact Nat.le_refl _)]
        simp [hinv.len, hp]
      rw [hpk] at d0 d1 d2 d3 d4 d5
      unfold bytesV at d5
      have hd5 : wr.frozen? ⟨g1, k * 6 + 5, none⟩ = false := by
        rcases hinv.row.2 with ⟨h, _⟩ | ⟨g', cap', cur', h, _, h3, _⟩
        · cases h
        · cases h; exact free_in h3 _
      have hgc : g1 ≠ w1.heap.size := by omega
      have hgr : g1 ≠ wr.heap.size := by omega
      have hds1 : p.size.toNat ≤ p.data.length := by omega
      have hds2 : p.data.length ≤ p.size.toNat := by omega
      have HB8 := Lib.hid (show ∀ o, Below wr.heap.size wr (wr.alloc o).drew from fun o => ((Below.refl _ _).alloc (Nat.le_refl _) _).drew)
      have HX := Lib.hid (show ∀ o j u, (byteCells p.data)[j]? = some u → ((wr.alloc o).drew).cell? ⟨p.blk, j, none⟩ = some u from fun o j u hj => by
        exact ((HB8.out o).cell (p := ⟨p.blk, j, none⟩) hbl2).trans ((hinv.below.cell (p := ⟨p.blk, j, none⟩) hbl).trans (HA.out.2.1.bytes.cell hmem j u hj)))
      have HC8 := Lib.hid (show ((wr.alloc (.cells #[.int .i64 p.at_, .int .i64 p.size, .int .i64 p.kind, .int .i64 p.owner, .int .i64 p.mod, .slice (some ⟨p.blk, 0, none⟩) p.size.toNat p.cap] 107)).drew).cell? ⟨wr.heap.size, 5, none⟩ = some (.slice (some ⟨p.blk, 0, none⟩) p.size.toNat p.cap) from cell_l (block_drew (heap_alloc_new wr _)) 5 rfl)
      have HD8 := Lib.hid (show ∀ o, ((wr.alloc o).drew).cell? ⟨w1.heap.size, 0, none⟩ = some (.slice (some ⟨g1, 0, none⟩) ps.length cap1) ∧ ((wr.alloc o).drew).cell? ⟨g1, k * 6 + 5, none⟩ = some (.slice (some ⟨p.blk, 0, none⟩) p.size.toNat p.cap) ∧ ((wr.alloc o).drew).frozen? ⟨g1, k * 6 + 5, none⟩ = false from fun o =>
        ⟨((HB8.out o).cell (p := ⟨w1.heap.size, 0, none⟩) hcl).trans hc1, ((HB8.out o).cell (p := ⟨g1, k * 6 + 5, none⟩) hg1r.2).trans d5, ((HB8.out o).frozen (p := ⟨g1, k * 6 + 5, none⟩) hg1r.2).trans hd5⟩)
      have HI := Lib.hid (And.intro hp hinv)
      have HB1 := Lib.hid b1
      clear hp hinv hPr hpk b3 b5 e2 b1
      go_wp2
      go_region_held3 (fun w' => w'.cell? ⟨w1.heap.size, 0, none⟩ = some (.slice (some ⟨g1, 0, none⟩) ps.length cap1) ∧ w'.cell? ⟨wr.heap.size, 5, none⟩ = some (.slice (some ⟨p.blk, 0, none⟩) p.size.toNat p.cap))
        (first | go_keep) (first | (go_at_call 77; refine (clone_bytes p.blk p.size.toNat p.cap (byteCells p.data) _ (HX.out _) (by rw [byteCells_length]; omega) (byteCells_one' _) (by omega) (by omega) (by simp; omega)).mono ?_; rintro e w2 ⟨hb2, g2, cap2, rfl, hown2⟩; have hs2 := hb2.size; have d6 := (hb2.cell (p := ⟨w1.heap.size, 0, none⟩) (by simp; omega)).trans (HD8.out _).1; have d7 := (hb2.cell (p := ⟨g1, k * 6 + 5, none⟩) (by simp; omega)).trans (HD8.out _).2.1; have d8 := (hb2.frozen (p := ⟨g1, k * 6 + 5, none⟩) (by simp; omega)).trans (HD8.out _).2.2; have d9 := (hb2.cell (p := ⟨wr.heap.size, 5, none⟩) (by simp)).trans HC8.out; have HO2 := Lib.hid (And.intro hb2 hown2); clear hb2 hown2))
      go_wp2
      go_roundw
      case rel =>
        obtain ⟨hb2, hown2⟩ := HO2.out
        obtain ⟨hp, hinv⟩ := HI.out
        exact ⟨k + 1, _, by omega, by go_num, hinv.step hlt hp HB1.out hb2 hown2 e3 (Ne.symm hgc)⟩
      case measure => simp [intOf]; omega
    · obtain rfl : k = ps.length := by omega
      have HI := Lib.hid hinv
      have hc1 := cell_of_one hinv.head
      clear hinv
      go_wp2
      go_ret
      have hinv := HI.out
      refine ⟨hinv.below, w1.heap.size, _, ns, rfl, ⟨hinv.head, ?_, hinv.bytes⟩, ⟨hinv.len, hinv.moved⟩, ?_⟩
      · have := hinv.row
        rw [List.drop_length, List.append_nil] at this
        rw [hinv.len]
        exact ownsRow_to this fun _ _ => Nat.zero_le _
      · rintro b (rfl | hb | ⟨p, hp, rfl⟩)
        · exact hs1
        · exact (hinv.row.lt b hb).1
        · exact hinv.own p hp
end Go.Proofs.YtkbilipgidcgeaaGreatDoor

namespace Go.Proofs.YtkbilipgidcgeaaGreatDoor
open Go.RowKit

attribute [local go_sem] ext_cell ext_frozen

set_option maxRecDepth 100000 in
set_option maxHeartbeats 2000000 in
theorem access_word (s g cap : Nat) (ps : List Part) (a : Int) (w : World) (hA : AreasOk ps) (hsp : SpaceAt w s (.slice (some ⟨g, 0, none⟩) ps.length cap) ps)
    (k : Nat) (hk : LastAt ps a k) (p : Part) (hp : p = ps[k]'hk.lt) (hin : a - p.at_ + 8 ≤ p.size) (hm : a.tmod 8 = 0) :
    Calls Tryz.prog 29 #[.pointer (some ⟨s, 0, none⟩), .int .i64 a, .int .i64 8] w fun e w' =>
      Below w.heap.size w w' ∧ e = .returned (.tuple #[partV p, .int .i64 (a - p.at_), .int .i64 0]) := by
  have hls := lt_of_block hsp.head
  have hk1 := hk.le
  rw [← hp] at hk1
  have hmem : p ∈ ps := by rw [hp]; exact List.getElem_mem hk.lt
  obtain ⟨e1, e2, e3, e4, e5⟩ := hA.each p hmem
  have hh : hasB p a 8 = true := by simp [hasB]; omega
  have HF := Lib.hid fun o => find_some s g cap ps a 8 (w.alloc o) hA (hsp.below ((Below.refl _ _).alloc (Nat.le_refl _) _)) k hk (by omega)
  rw [← hp, hh] at HF
  clear hA hsp hk hp hmem e2 hh
  unfold partV bytesV at HF
  unfold partV bytesV
  go_enter Tryz.func29, Tryz.ntmps29
  go_wp2_with (go_at_call 31; refine (HF.out _).mono ?_; rintro e w1 ⟨hb1, rfl⟩; have hsz1 := size_call hb1; have hn1 := new_block hb1; have HN1 := Lib.hid hn1; clear hn1)
  refine name_world fun W hW => ?_
  have hn2 := block_old (o' := .cells #[.int .i64 p.at_, .int .i64 p.size, .int .i64 p.kind, .int .i64 p.owner, .int .i64 p.mod, .slice (some ⟨p.blk, 0, none⟩) p.size.toNat p.cap] 107) HN1.out
  have hn3 := heap_alloc_new w1 (.cells #[.int .i64 p.at_, .int .i64 p.size, .int .i64 p.kind, .int .i64 p.owner, .int .i64 p.mod, .slice (some ⟨p.blk, 0, none⟩) p.size.toNat p.cap] 107)
  rw [hW] at hn2 hn3
  (have c0 := cell_l hn2 0 rfl; have f0 := free_in hn2 0; have c1 := cell_l hn2 1 rfl; have f1 := free_in hn2 1; have c2 := cell_l hn2 2 rfl; have f2 := free_in hn2 2; have c3 := cell_l hn2 3 rfl; have f3 := free_in hn2 3; have c4 := cell_l hn2 4 rfl; have f4 := free_in hn2 4; have c5 := cell_l hn2 5 rfl; have f5 := free_in hn2 5)
  (have c0 := cell_l hn3 0 rfl; have f0 := free_in hn3 0; have c1 := cell_l hn3 1 rfl; have f1 := free_in hn3 1; have c2 := cell_l hn3 2 rfl; have f2 := free_in hn3 2; have c3 := cell_l hn3 3 rfl; have f3 := free_in hn3 3; have c4 := cell_l hn3 4 rfl; have f4 := free_in hn3 4; have c5 := cell_l hn3 5 rfl; have f5 := free_in hn3 5)
  go_region
  go_wp2
  have hn4 := block_drew (block_set (block_set (block_set (block_set (block_set (block_set hn2 0 (.int .i64 p.at_)) 1 (.int .i64 p.size)) 2 (.int .i64 p.kind)) 3 (.int .i64 p.owner)) 4 (.int .i64 p.mod)) 5 (.slice (some ⟨p.blk, 0, none⟩) p.size.toNat p.cap))
  have hb0 := below_call ((Below.refl _ _).alloc (Nat.le_refl _) _) hb1
  have hb : Below w.heap.size w W := by rw [← hW]; go_grown
  have hb4 : Below w.heap.size w (((((((W.setCell ⟨w.heap.size, 0, none⟩ (.int .i64 p.at_)).setCell ⟨w.heap.size, 1, none⟩ (.int .i64 p.size)).setCell ⟨w.heap.size, 2, none⟩ (.int .i64 p.kind)).setCell ⟨w.heap.size, 3, none⟩ (.int .i64 p.owner)).setCell ⟨w.heap.size, 4, none⟩ (.int .i64 p.mod)).setCell ⟨w.heap.size, 5, none⟩ (.slice (some ⟨p.blk, 0, none⟩) p.size.toNat p.cap))).drew := by
    go_grown
  refine name_world fun W4 hW4 => ?_
  rw [hW4] at hn4 hb4
  refine bodyPost_ret (results_cell_tmp2 rfl _ _ _ _ _ _ _ rfl (by (repeat (first | assumption | exact heap_alloc_new _ _ | refine block_old ?_ | refine block_drew ?_ | apply setRow_heap | (refine (setRow_other _ _ _ _ ?_).trans ?_; omega)))) (Tryz.underlying107) rfl (by kernel_rfl)) rfl ?_
  exact ⟨hb4, rfl⟩

/-- The bytes of a word in memory. -/
def wordL (n : Int) : List UInt8 := (List.range 8).map fun i => UInt8.ofNat ((n / 2 ^ (8 * i)) % 256).toNat

theorem wordL_get (n : Int) (k : Nat) (hk : k < 8) : (wordL n)[k]? = some (UInt8.ofNat ((n / 2 ^ (8 * k)) % 256).toNat) := by
  simp [wordL, hk]

theorem word_byte (n : Int) (k : Nat) : ((UInt8.ofNat ((n / 2 ^ (8 * k)) % 256).toNat).toNat : Int) = n / 2 ^ (8 * k) % 256 := by
  have h1 := Int.emod_nonneg (n / 2 ^ (8 * k)) (show (256 : Int) ≠ 0 by decide)
  have h2 := Int.emod_lt_of_pos (n / 2 ^ (8 * k)) (show (0 : Int) < 256 by decide)
  simp [UInt8.toNat_ofNat']
  omega

theorem wordSet (cur : List Value) (o k : Nat) (n : Int) (hk : k < 8) (hfit : o + 8 ≤ cur.length) :
    ((cur.take o ++ byteCells ((wordL n).take k) ++ cur.drop (o + k)).set (o + k) (.int .u8 (n / 2 ^ (8 * k) % 256))).toArray =
      (cur.take o ++ byteCells ((wordL n).take (k + 1)) ++ cur.drop (o + (k + 1))).toArray := by
  congr 1
  have hl : (wordL n).length = 8 := by simp [wordL]
  have h1 : (cur.take o ++ byteCells ((wordL n).take k)).length = o + k := by simp [byteCells_length, hl]; omega
  rw [List.set_append_right _ _ (by omega), h1, Nat.sub_self]
  have h2 : cur.drop (o + k) = cur[o + k]'(by omega) :: cur.drop (o + k + 1) := List.drop_eq_getElem_cons (by omega)
  rw [h2, List.set_cons_zero]
  have h3 : (wordL n).take (k + 1) = (wordL n).take k ++ [UInt8.ofNat ((n / 2 ^ (8 * k)) % 256).toNat] := by
    rw [List.take_add_one, wordL_get n k hk]; rfl
  rw [h3, byteCells_append]
  have h4 : byteCells [UInt8.ofNat ((n / 2 ^ (8 * k)) % 256).toNat] = [.int .u8 (n / 2 ^ (8 * k) % 256)] := by
    simp only [byteCells, List.map_cons, List.map_nil]
    rw [word_byte]
  rw [h4]
  simp [Nat.add_assoc]

set_option maxRecDepth 100000 in
set_option maxHeartbeats 2000000 in
theorem store_word (s g cap : Nat) (ps : List Part) (a n : Int) (w : World) (hA : AreasOk ps) (hsp : SpaceAt w s (.slice (some ⟨g, 0, none⟩) ps.length cap) ps)
    (k : Nat) (hk : LastAt ps a k) (p : Part) (hp : p = ps[k]'hk.lt) (hin : a - p.at_ + 8 ≤ p.size) (hm : a.tmod 8 = 0) (hkind : p.kind ≠ 0) :
    Calls Tryz.prog 40 #[.pointer (some ⟨s, 0, none⟩), .int .i64 a, .int .i64 8, .int .i64 n] w fun e w' =>
      e = .returned (.int .i64 0) ∧ Only (· = p.blk) w w' ∧ SpaceAt w' s (.slice (some ⟨g, 0, none⟩) ps.length cap) (ps.set k (p.put a (wordL n))) := by
  have hls := lt_of_block hsp.head
  have hk1 := hk.le
  rw [← hp] at hk1
  have hmem : p ∈ ps := by rw [hp]; exact List.getElem_mem hk.lt
  obtain ⟨e1, e2, e3, e4, e5⟩ := hA.each p hmem
  have hkk : (p.kind == 0) = false := by simpa using hkind
  have HF := Lib.hid (access_word s g cap ps a w hA hsp k hk p hp hin hm)
  have HS := Lib.hid (And.intro hsp hp)
  unfold partV bytesV at HF
  clear hA hsp hp hmem e2 hm
  go_enter Tryz.func40, Tryz.ntmps40
  go_wp2_with (go_at_call 29; refine HF.out.mono ?_; rintro e w1 ⟨hb1, rfl⟩; have hsz1 := hb1.size)
  have hW2 := heap_alloc_new w1 (.cells #[.int .i64 p.at_, .int .i64 p.size, .int .i64 p.kind, .int .i64 p.owner, .int .i64 p.mod, .slice (some ⟨p.blk, 0, none⟩) p.size.toNat p.cap] 107)
  obtain ⟨b1, b2, cur, b3, b4, b5⟩ := HS.out.1.bytes.2 p (by rw [HS.out.2]; exact List.getElem_mem _)
  have hbl := lt_of_block b3
  have hfit : (a - p.at_).toNat + 8 ≤ cur.size := by omega
  have HB := Lib.hid (And.intro b3 (And.intro b5 (And.intro hb1 hW2)))
  clear b3 b5 hb1 hW2 b4
  go_loopw [29] (fun i wr => ∃ k : Nat, k ≤ 8 ∧ i = .int .i64 k ∧ Only (· = p.blk) w wr ∧ wr.heap[w1.heap.size]? = some (.cells #[.int .i64 p.at_, .int .i64 p.size, .int .i64 p.kind, .int .i64 p.owner, .int .i64 p.mod, .slice (some ⟨p.blk, 0, none⟩) p.size.toNat p.cap] 107 (0, 0)) ∧
      wr.heap[p.blk]? = some (.cells (cur.toList.take (a - p.at_).toNat ++ byteCells ((wordL n).take k) ++ cur.toList.drop ((a - p.at_).toNat + k)).toArray 5 (0, 0))) (fun i _ => 8 - (intOf i).toNat)
  case atStart =>
    refine ⟨0, by omega, rfl, (Only.of_below HB.out.2.2.1).alloc _, HB.out.2.2.2, ?_⟩
    have := HB.out.1
    simp [byteCells]
    exact block_old ((HB.out.2.2.1.block _ hbl).trans this)
  case round =>
    obtain ⟨k, hk8, rfl, ho, hbx, hblk⟩ := hrel
    by_cases hlt : k < 8
    · (have c0 := cell_l hbx 0 rfl; have f0 := free_in hbx 0; have c1 := cell_l hbx 1 rfl; have f1 := free_in hbx 1; have c2 := cell_l hbx 2 rfl; have f2 := free_in hbx 2; have c3 := cell_l hbx 3 rfl; have f3 := free_in hbx 3; have c4 := cell_l hbx 4 rfl; have f4 := free_in hbx 4; have c5 := cell_l hbx 5 rfl; have f5 := free_in hbx 5)
      have hlen : (cur.toList.take (a - p.at_).toNat ++ byteCells ((wordL n).take k) ++ cur.toList.drop ((a - p.at_).toNat + k)).length = cur.size := by simp [byteCells_length, wordL]; omega
      obtain ⟨vv, hv⟩ : ∃ v, (cur.toList.take (a - p.at_).toNat ++ byteCells ((wordL n).take k) ++ cur.toList.drop ((a - p.at_).toNat + k))[(a - p.at_).toNat + k]? = some v := ⟨_, List.getElem?_eq_getElem (by omega)⟩
      have g0 := cell_l hblk _ hv
      have gf := free_in hblk ((a - p.at_).toNat + k)
      have hofs : (a - p.at_ + (k : Int)).toNat = (a - p.at_).toNat + k := by omega
      rw [← hofs] at g0 gf
      have HOF := Lib.hid hofs
      clear hofs
      have hlb := lt_of_block hbx
      have HH := Lib.hid (And.intro ho (And.intro hbx (And.intro hblk (And.intro hlen hv))))
      clear ho hbx hblk hlen hv
      go_wp2
      go_region
      go_wp2
      go_roundw
      case rel =>
        obtain ⟨ho, hbx, hblk, hlen, hv⟩ := HH.out
        have hofs := HOF.out
        have hne : w1.heap.size ≠ p.blk := by omega
        refine ⟨k + 1, by omega, by go_num, ?_, ?_, ?_⟩
        · exact (ho.setCell _ _ (.inl rfl)).drew
        · exact block_drew (block_other hbx _ _ hne)
        · rw [hofs]
          refine (block_drew (block_set hblk ((a - p.at_).toNat + k) _)).trans ?_
          congr 2
          exact wordSet cur.toList _ k n hlt (by simpa using hfit)
      case measure => simp [intOf]; omega
    · obtain rfl : k = 8 := by omega
      have HH := Lib.hid (And.intro ho hblk)
      clear ho hbx hblk
      go_wp2
      go_ret
      obtain ⟨ho, hblk⟩ := HH.out
      obtain ⟨hsp, hp⟩ := HS.out
      subst hp
      obtain ⟨h1, h2⟩ := hsp.apart (List.getElem_mem hk.lt)
      refine ⟨rfl, ho, hsp.put hk.lt ho h1 h2 ?_ ⟨cur, HB.out.1, ?_⟩⟩
      · simp [wordL]; omega
      · have hl : (wordL n).length = 8 := by simp [wordL]
        have ht : (wordL n).take 8 = wordL n := by rw [← hl]; exact List.take_length
        rw [ht] at hblk
        rw [hl]
        exact hblk
end Go.Proofs.YtkbilipgidcgeaaGreatDoor

namespace Go.Proofs.YtkbilipgidcgeaaGreatDoor
open Go Go.RowKit

/-- The number in some bytes, the least first. -/
def leN : List UInt8 → Nat
  | [] => 0
  | b :: r => b.toNat + 256 * leN r

theorem leN_snoc (l : List UInt8) (b : UInt8) : leN (l ++ [b]) = leN l + b.toNat * 256 ^ l.length := by
  induction l with
  | nil => simp [leN]
  | cons x l ih =>
    simp only [List.cons_append, leN, List.length_cons, Nat.pow_succ]
    rw [ih, Nat.mul_add, Nat.add_assoc, ← Nat.mul_assoc, Nat.mul_comm 256 b.toNat, Nat.mul_assoc, Nat.mul_comm 256 (256 ^ l.length)]

theorem leN_lt (l : List UInt8) : leN l < 256 ^ l.length := by
  induction l with
  | nil => simp [leN]
  | cons x l ih =>
    have := x.toNat_lt
    simp only [leN, List.length_cons, Nat.pow_succ]
    omega

theorem or_join (n b k : Nat) (hk : k < 8) (hn : n < 256 ^ k) (hb : b < 256) : n ||| (b * 256 ^ k) = n + b * 256 ^ k := by
  rw [Nat.or_comm, Nat.add_comm]
  have e : 256 ^ k = 2 ^ (8 * k) := by rw [Nat.pow_mul]
  rw [e] at hn ⊢
  exact nat_join (8 * k) (b * 2 ^ (8 * k)) n (Nat.mul_mod_left _ _) hn

theorem leN_take (l : List UInt8) (k : Nat) (h : k < l.length) : leN (l.take (k + 1)) = leN (l.take k) + (l[k]).toNat * 256 ^ k := by
  rw [List.take_succ_eq_append_getElem h, leN_snoc, List.length_take, Nat.min_eq_left (by omega)]

theorem leN_take_lt (l : List UInt8) (k : Nat) (h : k ≤ l.length) : leN (l.take k) < 256 ^ k := by
  have := leN_lt (l.take k)
  rwa [List.length_take, Nat.min_eq_left h] at this

/-- The lowest bytes of a number, as the writers lay them. -/
def lowL (n : Int) (k : Nat) : List UInt8 := (List.range k).map fun i => UInt8.ofNat ((n / 2 ^ (8 * i)) % 256).toNat

theorem byte_of (m : Int) : ((UInt8.ofNat (m % 256).toNat).toNat : Int) = m % 256 := by
  have h1 := Int.emod_nonneg m (show (256 : Int) ≠ 0 by decide)
  have h2 := Int.emod_lt_of_pos m (show (0 : Int) < 256 by decide)
  simp [UInt8.toNat_ofNat']
  omega

theorem leN_low4 (n : Int) : (leN (lowL n 4) : Int) = n % 4294967296 := by
  have e : lowL n 4 = [UInt8.ofNat ((n / 2 ^ (8 * 0)) % 256).toNat, UInt8.ofNat ((n / 2 ^ (8 * 1)) % 256).toNat, UInt8.ofNat ((n / 2 ^ (8 * 2)) % 256).toNat, UInt8.ofNat ((n / 2 ^ (8 * 3)) % 256).toNat] := rfl
  rw [e]
  simp only [leN]
  have h0 := byte_of (n / 2 ^ (8 * 0))
  have h1 := byte_of (n / 2 ^ (8 * 1))
  have h2 := byte_of (n / 2 ^ (8 * 2))
  have h3 := byte_of (n / 2 ^ (8 * 3))
  generalize UInt8.ofNat ((n / 2 ^ (8 * 0)) % 256).toNat = b0 at *
  generalize UInt8.ofNat ((n / 2 ^ (8 * 1)) % 256).toNat = b1 at *
  generalize UInt8.ofNat ((n / 2 ^ (8 * 2)) % 256).toNat = b2 at *
  generalize UInt8.ofNat ((n / 2 ^ (8 * 3)) % 256).toNat = b3 at *
  simp at h0 h1 h2 h3
  omega

theorem leN_append (a b : List UInt8) : leN (a ++ b) = leN a + 256 ^ a.length * leN b := by
  induction a with
  | nil => simp [leN]
  | cons x a ih =>
    simp only [List.cons_append, leN, List.length_cons, Nat.pow_succ]
    rw [ih, Nat.mul_add, Nat.add_assoc, ← Nat.mul_assoc, Nat.mul_comm 256 (256 ^ a.length)]

theorem lowL_split (n : Int) : lowL n 8 = lowL n 4 ++ lowL (n / 4294967296) 4 := by
  have h : ∀ i : Nat, n / 4294967296 / 2 ^ (8 * i) = n / 2 ^ (8 * (4 + i)) := by
    intro i
    rw [Int.ediv_ediv_of_nonneg (by decide)]
    congr 1
    rw [Nat.mul_add, Int.pow_add]
    rfl
  simp only [lowL, show List.range 8 = [0, 1, 2, 3, 4, 5, 6, 7] from rfl, show List.range 4 = [0, 1, 2, 3] from rfl, List.map_cons, List.map_nil, h]
  rfl

theorem leN_low8 (n : Int) : (leN (lowL n 8) : Int) = n % 18446744073709551616 := by
  have h1 := leN_low4 n
  have h2 := leN_low4 (n / 4294967296)
  have hl : (lowL n 4).length = 4 := by simp [lowL]
  rw [lowL_split, leN_append, hl]
  generalize leN (lowL n 4) = a at *
  generalize leN (lowL (n / 4294967296) 4) = b at *
  simp only [Nat.reducePow]
  omega

/-- The signed number of 32 bits. -/
def sgn32 (n : Int) : Int := if n % 4294967296 < 2147483648 then n % 4294967296 else n % 4294967296 - 4294967296
theorem sgn32_low (n : Int) (h1 : -2147483648 ≤ n) (h2 : n ≤ 2147483647) : sgn32 (leN (lowL n 4)) = n := by
  rw [leN_low4]; unfold sgn32; split <;> omega
/-- The signed number of 64 bits. -/
def sgn64 (n : Int) : Int := if n % 18446744073709551616 < 9223372036854775808 then n % 18446744073709551616 else n % 18446744073709551616 - 18446744073709551616
theorem sgn64_low (n : Int) (h1 : -9223372036854775808 ≤ n) (h2 : n ≤ 9223372036854775807) : sgn64 (leN (lowL n 8)) = n := by
  rw [leN_low8]; unfold sgn64; split <;> omega
end Go.Proofs.YtkbilipgidcgeaaGreatDoor

namespace Go.Proofs.YtkbilipgidcgeaaGreatDoor
open Go.RowKit

attribute [local go_sem] ext_cell ext_frozen

set_option maxRecDepth 100000 in
theorem fits_s (n : Int) (w : World) (h1 : -2147483648 ≤ n) (h2 : n ≤ 2147483647) :
    Calls Tryz.prog 168 #[.int .i64 n, .int .i64 32, .bool true] w fun e w' => e = .returned (.bool true) ∧ Below w.heap.size w w' := by
  by_cases h : n < 0
  · have hs : n / 2147483648 = -1 := by omega
    go_enter Tryz.func168, Tryz.ntmps168
    go_wp2
    go_ret
    exact ⟨by simp, Below.refl _ _⟩
  · have hs : n / 2147483648 = 0 := by omega
    go_enter Tryz.func168, Tryz.ntmps168
    go_wp2
    go_ret
    exact ⟨by simp, Below.refl _ _⟩

set_option maxRecDepth 100000 in
theorem fits_u (n : Int) (w : World) (h1 : -2147483648 ≤ n) (h2 : n ≤ 2147483647) :
    Calls Tryz.prog 168 #[.int .i64 n, .int .i64 32, .bool false] w fun e w' => e = .returned (.bool (decide (0 ≤ n))) ∧ Below w.heap.size w w' := by
  by_cases h : n < 0
  · have h' : ¬ 0 ≤ n := by omega
    go_enter Tryz.func168, Tryz.ntmps168
    go_wp2
    go_ret
    exact ⟨by simp [h'], Below.refl _ _⟩
  · have hs : n / 4294967296 = 0 := by omega
    have h' : 0 ≤ n := by omega
    go_enter Tryz.func168, Tryz.ntmps168
    go_wp2
    go_ret
    exact ⟨by simp [h'], Below.refl _ _⟩

set_option maxRecDepth 100000 in
theorem wfield_ok (s : ByteArray) (at_ size : Int) (w : World) (hs : size = 1 ∨ size = 2 ∨ size = 4 ∨ size = 8) (h0 : 0 ≤ at_) (h : at_ ≤ s.size - size) (hl : s.size ≤ 1000000) :
    Calls Tryz.prog 74 #[.string s, .int .i64 at_, .int .i64 size] w fun e w' => e = .returned (.bool true) ∧ Below w.heap.size w w' := by
  rcases hs with rfl | rfl | rfl | rfl
  all_goals
    go_enter Tryz.func74, Tryz.ntmps74
    go_wp2
    go_ret
    exact ⟨by simp, Below.refl _ _⟩

/-- The fields of an instruction in memory. -/
def insV (op a b c imm : Int) : Value := .agg #[.int .i64 op, .int .i64 a, .int .i64 b, .int .i64 c, .int .i64 imm]

set_option maxRecDepth 100000 in
theorem ifield_any (g : Nat) (k : Nat) (hk : k < 4) (w : World) :
    Calls Tryz.prog 166 #[.pointer (some ⟨g, 0, none⟩), .int .u8 (([65, 66, 67, 73] : List Int)[k])] w fun e w' => e = .returned (.pointer (some ⟨g, k + 1, none⟩)) ∧ w = w' := by
  obtain rfl | rfl | rfl | rfl : k = 0 ∨ k = 1 ∨ k = 2 ∨ k = 3 := by omega
  all_goals
    go_enter Tryz.func166, Tryz.ntmps166
    go_wp2
    go_ret
    exact ⟨rfl, rfl⟩

/-- The Imm of an instruction is possible (calls aside). -/
structure ImmOk (op imm : Int) : Prop where
  lo : -2147483648 ≤ imm
  hi : imm ≤ 2147483647
  call : op ≠ 22
  jump : op = 19 ∨ op = 20 ∨ op = 21 ∨ op = 24 ∨ op = 25 → imm.tmod 8 = 0
  sys : op = 30 → 0 ≤ imm ∧ imm < 8

set_option maxRecDepth 100000 in
set_option maxHeartbeats 1000000 in
theorem imm_ok (op a b c imm : Int) (w : World) (h : ImmOk op imm) :
    Calls Tryz.prog 165 #[insV op a b c imm] w fun e w' => e = .returned (.bool true) ∧ Below w.heap.size w w' := by
  obtain ⟨h1, h2, h3, h4, h5⟩ := h
  have h22 : (op == 22) = false := by simpa using h3
  unfold insV
  by_cases hj : op = 19 ∨ op = 20 ∨ op = 21 ∨ op = 24 ∨ op = 25
  · have hm := h4 hj
    clear h5 h4 h3 h22
    rcases hj with rfl | rfl | rfl | rfl | rfl
    all_goals
      go_enter Tryz.func165, Tryz.ntmps165
      go_wp2_with (go_at_call 168; refine (fits_s _ _ h1 h2).mono ?_; rintro e w1 ⟨rfl, hb1⟩; have HB1 := Lib.hid hb1; clear hb1)
      go_ret
      exact ⟨by simp, below_call ((Below.refl _ _).alloc (Nat.le_refl _) _) HB1.out⟩
  · have n19 : (op == 19) = false := by simp; omega
    have n20 : (op == 20) = false := by simp; omega
    have n21 : (op == 21) = false := by simp; omega
    have n24 : (op == 24) = false := by simp; omega
    have n25 : (op == 25) = false := by simp; omega
    clear hj h4 h3
    by_cases h30 : op = 30
    · obtain ⟨h6, h7⟩ := h5 h30
      subst h30
      clear h5 n19 n20 n21 n24 n25 h22
      go_enter Tryz.func165, Tryz.ntmps165
      go_wp2
      go_ret
      exact ⟨by simp, (Below.refl _ _).alloc (Nat.le_refl _) _⟩
    · have n30 : (op == 30) = false := by simpa using h30
      clear h5 h30
      go_enter Tryz.func165, Tryz.ntmps165
      go_wp2_with (go_at_call 168; refine (fits_s _ _ h1 h2).mono ?_; rintro e w1 ⟨rfl, hb1⟩; have HB1 := Lib.hid hb1; clear hb1)
      go_ret
      exact ⟨rfl, below_call ((Below.refl _ _).alloc (Nat.le_refl _) _) HB1.out⟩
end Go.Proofs.YtkbilipgidcgeaaGreatDoor
