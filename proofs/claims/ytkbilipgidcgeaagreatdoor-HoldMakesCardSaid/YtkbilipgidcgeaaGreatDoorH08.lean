/- space: Areas. space: Write as the memory sees it; areas that stay right. -/
import Derived.Test.YtkbilipgidcgeaaGreatDoorH05
set_option linter.unusedVariables false
set_option linter.unusedSimpArgs false
namespace Go.Proofs.YtkbilipgidcgeaaGreatDoor
open Go.RowKit

attribute [local go_sem] ext_cell ext_frozen

def areasCells (ps : List Part) : List Value := ps.flatMap areaCells
theorem areasCells_take (ps : List Part) (k : Nat) (h : k < ps.length) : areasCells (ps.take (k + 1)) = areasCells (ps.take k) ++ areaCells ps[k] := by
  unfold areasCells
  rw [List.take_succ_eq_append_getElem h, List.flatMap_append]
  simp only [List.flatMap_cons, List.flatMap_nil, List.append_nil]

theorem info_Area : (Tryz.prog.info? 105).map (fun i => (i.zero, i.size, i.bytes)) = some (some (.agg #[.int .i64 0, .int .i64 0, .int .i64 0, .int .i64 0, .int .i64 0]), 5, 40) := by kernel_rfl

set_option maxRecDepth 100000 in
set_option maxHeartbeats 1000000 in
theorem areas_row (s g cap : Nat) (ps : List Part) (w : World) (hfew : ps.length ≤ 4096) (hsp : SpaceAt w s (.slice (some ⟨g, 0, none⟩) ps.length cap) ps) :
    Calls Tryz.prog 52 #[.pointer (some ⟨s, 0, none⟩)] w fun e w' =>
      Below w.heap.size w w' ∧ ∃ v, e = .returned v ∧ w'.ownsRow w.heap.size 105 5 v ps.length (areasCells ps) := by
  have hc := cell_of_one hsp.head
  have hls := lt_of_block hsp.head
  have hP : PartsAt w g ps := fun j u hj => by have := hsp.row.cells (g := g) rfl j u hj; simpa [addr_add] using this
  have hg0 : g < w.heap.size := (hsp.row.lt g rfl).2
  obtain ⟨i0, hi, hz0, hz1, hz2⟩ := info_parts info_Area
  have HP := Lib.hid hP
  have HI := Lib.hid (And.intro hi (And.intro hz0 (And.intro hz1 hz2)))
  clear hsp hP hi hz0 hz1 hz2
  go_enter Tryz.func52, Tryz.ntmps52
  go_wp2
  go_loopw [3, 11] (fun v i wr => ∃ k : Nat, k ≤ ps.length ∧ i = .int .i64 k ∧ wr.ownsRow w.heap.size 105 5 v k (areasCells (ps.take k)) ∧ Below w.heap.size w wr) (fun _ i _ => ps.length - (intOf i).toNat)
  case atStart => exact ⟨0, Nat.zero_le _, rfl, World.ownsRow_nil _ _ _ _, Below.refl _ _⟩
  case round =>
    obtain ⟨k, hk, rfl, hown, hb⟩ := hrel
    by_cases hlt : k < ps.length
    · obtain ⟨p, hp⟩ : ∃ p, p = ps[k] := ⟨_, rfl⟩
      obtain ⟨d0, d1, d2, d3, d4, d5⟩ := (HP.out.below hb hg0).six k hlt
      rw [← hp] at d0 d1 d2 d3 d4 d5
      unfold bytesV at d5
      have hwr := hb.size
      have HH := Lib.hid (And.intro hp (And.intro hown hb))
      clear hp hown hb
      go_wp2_with (at_builtin; refine wpList_append_lies _ rfl _ _ _ rfl w.heap.size 105 i0 (.agg #[.int .i64 0, .int .i64 0, .int .i64 0, .int .i64 0, .int .i64 0]) 5 40 Tryz.underlying136 HI.out.1 HI.out.2.1 HI.out.2.2.1 HI.out.2.2.2 rfl (by omega) _ _ _ rfl ((HH.out.2.1.alloc _).alloc _) ⟨wr.heap.size + 1, 0, none⟩ 1 1 (areaCells p) rfl rfl ?c1 ?c2 (by omega) ?c3 ?c4 ?c5 (wr.heap.size + 2) (by simp) ?_)
      case c1 => exact World.news_of_block (cs := #[.int .i64 p.at_, .int .i64 p.size, .int .i64 p.kind, .int .i64 p.owner, .int .i64 p.mod]) (t := 105) (fr := (0, 0)) (heap_alloc2_new wr _ _)
      case c2 => simp [areaCells, Value.oneCell']
      case c3 => unfold maxLen; omega
      case c4 => omega
      case c5 => simp; omega
      intro g1 cap1 w1 hown1 hgrow hat hlt1
      have HG := Lib.hid (And.intro hown1 (And.intro hgrow (And.intro hat hlt1)))
      clear hown1 hgrow hat hlt1
      go_wp2
      go_roundw
      case rel =>
        obtain ⟨hown1, hgrow, hat, hlt1⟩ := HG.out
        obtain ⟨hp, hown, hb⟩ := HH.out
        refine ⟨k + 1, by omega, by go_num, ?_, ?_⟩
        · rw [areasCells_take ps k hlt, ← hp]
          exact hown1
        · have := hb.alloc (by omega) (Obj.cells #[.int .i64 p.at_, .int .i64 p.size, .int .i64 p.kind, .int .i64 p.owner, .int .i64 p.mod, .slice (some ⟨p.blk, 0, none⟩) p.size.toNat p.cap] 107)
          have := this.alloc (by simp; omega) (Obj.cells #[.int .i64 p.at_, .int .i64 p.size, .int .i64 p.kind, .int .i64 p.owner, .int .i64 p.mod] 105)
          exact this.grown hgrow (by simp; omega) (fun b hb' => (hown.lt b hb').1)
      case measure => simp [intOf]; omega
    · obtain rfl : k = ps.length := by omega
      rw [List.take_length] at hown
      have HH := Lib.hid (And.intro hown hb)
      clear hown hb
      go_wp2
      go_ret
      exact ⟨HH.out.2, _, rfl, HH.out.1⟩
end Go.Proofs.YtkbilipgidcgeaaGreatDoor

namespace Go.Proofs.YtkbilipgidcgeaaGreatDoor
open Go.RowKit

attribute [local go_sem] ext_cell ext_frozen

theorem SpaceAt.apart {w : World} {s : Nat} {pv : Value} {ps : List Part} (h : SpaceAt w s pv ps) {p : Part} (hp : p ∈ ps) : s ≠ p.blk ∧ pv.ownBlock ≠ some p.blk := by
  obtain ⟨h1, h2, cur, h3, h4, h5⟩ := h.bytes.2 p hp
  refine ⟨fun e => ?_, fun e => ?_⟩
  · rw [← e, h.head] at h3
    simp at h3
  · obtain ⟨cur', hc⟩ := ownsRow_block h.row _ e
    rw [h3] at hc
    simp at hc

theorem SpaceAt.apart2 {w : World} {s : Nat} {pv : Value} {ps : List Part} (h : SpaceAt w s pv ps) : pv.ownBlock ≠ some s := fun e => by
  obtain ⟨cur', hc⟩ := ownsRow_block h.row _ e
  rw [h.head] at hc
  simp at hc

/-- The blocks of a memory. -/
def spaceFoot (s : Nat) (pv : Value) (ps : List Part) : Nat → Prop := fun b => b = s ∨ pv.ownBlock = some b ∨ ∃ p ∈ ps, p.blk = b

theorem SpaceAt.kept {S : Nat → Prop} {w w' : World} {s : Nat} {pv : Value} {ps : List Part} (h : SpaceAt w s pv ps) (ho : Only S w w') (hd : ∀ b, spaceFoot s pv ps b → ¬ S b) : SpaceAt w' s pv ps := by
  refine ⟨ho.kept h.head (hd _ (.inl rfl)), ⟨h.row.1, ?_⟩, h.bytes.1, fun p hp => ?_⟩
  · rcases h.row.2 with h2 | ⟨g, cap, cur, rfl, h0, hgg, r⟩
    · exact .inl h2
    · exact .inr ⟨g, cap, cur, rfl, h0, ho.kept hgg (hd _ (.inr (.inl rfl))), r⟩
  · obtain ⟨h1, h2, cur, h3, h4, h5⟩ := h.bytes.2 p hp
    exact ⟨h1, h2, cur, ho.kept h3 (hd _ (.inr (.inr ⟨p, hp, rfl⟩))), h4, h5⟩

theorem SpaceAt.lt {w : World} {s : Nat} {pv : Value} {ps : List Part} (h : SpaceAt w s pv ps) : ∀ b, spaceFoot s pv ps b → b < w.heap.size := by
  rintro b (rfl | hb | ⟨p, hp, rfl⟩)
  · exact lt_of_block h.head
  · exact (h.row.lt b hb).2
  · obtain ⟨_, _, cur, h3, _⟩ := h.bytes.2 p hp
    exact lt_of_block h3

theorem AreasOk.put {ps : List Part} (h : AreasOk ps) (k : Nat) (hk : k < ps.length) (a : Int) (x : List UInt8) : AreasOk (ps.set k (ps[k].put a x)) := by
  have hg : ∀ i (hi : i < (ps.set k (ps[k].put a x)).length), ((ps.set k (ps[k].put a x))[i]).at_ = (ps[i]'(by simpa using hi)).at_ ∧ ((ps.set k (ps[k].put a x))[i]).size = (ps[i]'(by simpa using hi)).size := by
    intro i hi
    rw [List.getElem_set]
    split
    · rename_i e; subst e; exact ⟨rfl, rfl⟩
    · exact ⟨rfl, rfl⟩
  refine ⟨fun p hp => ?_, fun i j hi hj hij => ?_, by simpa using h.few⟩
  · obtain ⟨i, hi, rfl⟩ := List.getElem_of_mem hp
    rw [(hg i hi).1, (hg i hi).2]
    exact h.each _ (List.getElem_mem _)
  · rw [(hg i hi).1, (hg i hi).2, (hg j hj).1]
    exact h.apart i j _ _ hij

theorem AreasOk.snoc {ps : List Part} (h : AreasOk ps) {q : Part} (hq : 256 ≤ q.at_ ∧ q.at_ % 256 = 0 ∧ 1 ≤ q.size ∧ q.size ≤ 1048576 ∧ q.at_ + q.size ≤ 1099511627776)
    (hend : ∀ p ∈ ps, p.at_ + p.size ≤ q.at_) (hf : ps.length < 4096) : AreasOk (ps ++ [q]) := by
  refine ⟨fun p hp => ?_, fun i j hi hj hij => ?_, by simp; omega⟩
  · rcases List.mem_append.1 hp with hp | hp
    · exact h.each p hp
    · simp at hp; subst hp; exact hq
  · simp at hi hj
    have hi' : i < ps.length := by omega
    rw [List.getElem_append_left hi']
    by_cases hj' : j < ps.length
    · rw [List.getElem_append_left hj']
      exact h.apart i j hi' hj' hij
    · rw [List.getElem_append_right (by omega)]
      simp
      exact hend _ (List.getElem_mem _)

theorem write_at (s : Nat) (pv : Value) (ps : List Part) (a : Int) (x : List UInt8) (w : World) (hA : AreasOk ps) (hsp : SpaceAt w s pv ps)
    (k : Nat) (hk : LastAt ps a k) (hin : a - (ps[k]'hk.lt).at_ + x.length ≤ (ps[k]'hk.lt).size) :
    Calls Tryz.prog 35 #[.pointer (some ⟨s, 0, none⟩), .int .i64 a, .string ⟨x.toArray⟩] w fun e w' =>
      e = .returned (.int .i64 0) ∧ Only (· = (ps[k]'hk.lt).blk) w w' ∧ SpaceAt w' s pv (ps.set k ((ps[k]'hk.lt).put a x)) := by
  have hkl := hk.lt
  have hk1 := hk.le
  obtain ⟨h1, h2⟩ := hsp.apart (List.getElem_mem hkl)
  obtain ⟨b1, b2, cur, b3, b4, b5⟩ := hsp.bytes.2 _ (List.getElem_mem hkl)
  by_cases hx : x = []
  · subst hx
    refine (write_none s a w).mono ?_
    rintro e w' ⟨rfl, rfl⟩
    refine ⟨rfl, Only.refl _ _, ?_⟩
    have : ps[k].put a [] = ps[k] := by simp [Part.put, putL]
    rw [this, List.set_getElem_self]
    exact hsp
  · obtain ⟨g, cap, rfl, _⟩ := hsp.parts (fun e => by rw [e] at hkl; simp at hkl)
    refine (write_some s g cap ps a x w hA hsp k hk _ rfl hin hx).mono ?_
    rintro e w' ⟨rfl, ho, cur, hc, hc'⟩
    exact ⟨rfl, ho, hsp.put hkl ho h1 h2 (by omega) ⟨cur, hc, hc'⟩⟩
end Go.Proofs.YtkbilipgidcgeaaGreatDoor
