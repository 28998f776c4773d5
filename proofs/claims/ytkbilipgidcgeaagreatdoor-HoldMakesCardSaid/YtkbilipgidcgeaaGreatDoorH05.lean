/- space: Read, Area. What a call changed: some blocks; everything else of the old memory stays. space: Write. space: right, Insert at the end, Map behind all others, New. space: Map behind all others. -/
import Derived.Laws.IdiomStrings
import Derived.Test.YtkbilipgidcgeaaGreatDoorH04
import Derived.Test.YtkbilipgidcgeaaGreatDoorH03
import Derived.Lib.BufferWrite
import Derived.Deep.AppendLies
import Derived.BigGuardPart
import Derived.Deep.RegionHeld3
import Derived.Deep.DrawnRows
import Derived.Deep.RegionLaw
set_option linter.unusedVariables false
set_option linter.unusedSimpArgs false
namespace Go.Proofs.YtkbilipgidcgeaaGreatDoor
open Go.RowKit

attribute [local go_sem] ext_cell ext_frozen

theorem addr_addo (g o j : Nat) : (⟨g, o, none⟩ : Addr).add j = ⟨g, o + j, none⟩ := by unfold Addr.add; split <;> simp_all

/-- What a part holds from an address on. -/
def readL (p : Part) (a n : Int) : List UInt8 := (p.data.drop (a - p.at_).toNat).take n.toNat

set_option maxRecDepth 100000 in
set_option maxHeartbeats 1000000 in
theorem read_some (s g cap : Nat) (ps : List Part) (a n : Int) (w : World) (hA : AreasOk ps) (hsp : SpaceAt w s (.slice (some ⟨g, 0, none⟩) ps.length cap) ps)
    (k : Nat) (hk : LastAt ps a k) (p : Part) (hp : p = ps[k]'hk.lt) (hin : a - p.at_ + n ≤ p.size) (hn : 0 < n) :
    Calls Tryz.prog 11 #[.pointer (some ⟨s, 0, none⟩), .int .i64 a, .int .i64 n] w fun e w' =>
      Below w.heap.size w w' ∧ e = .returned (.tuple #[.string ⟨(readL p a n).toArray⟩, .int .i64 0]) := by
  have hls := lt_of_block hsp.head
  have hk1 := hk.le
  rw [← hp] at hk1
  have hmem : p ∈ ps := by rw [hp]; exact List.getElem_mem hk.lt
  obtain ⟨e1, e2, e3, e4, e5⟩ := hA.each p hmem
  obtain ⟨b1, b2, cur, b3, b4, b5⟩ := hsp.bytes.2 p hmem
  have hbl := lt_of_block b3
  have hh : hasB p a n = true := by simp [hasB]; omega
  have HF := Lib.hid (find_some s g cap ps a n w hA hsp k hk (by omega))
  rw [← hp, hh] at HF
  have HB := Lib.hid (And.intro b3 (And.intro b4 b5))
  clear b3 b4 b5 hA hsp hk hp hmem e2 hh
  unfold partV bytesV at HF
  go_enter Tryz.func11, Tryz.ntmps11
  go_wp2_with (go_at_call 31; refine HF.out.mono ?_; rintro e w1 ⟨hb1, rfl⟩; have hsz1 := hb1.size)
  have hlen : (readL p a n).length = n.toNat := by simp [readL]; omega
  have hl2 : (a - p.at_ + n).toNat - (a - p.at_).toNat = (readL p a n).length := by omega
  obtain ⟨b3, b4, b5⟩ := HB.out
  rw [hl2, run_convert_bytes_back _ 76 9 5 ⟨p.blk, (a - p.at_).toNat, none⟩ _ (readL p a n) Tryz.underlying76 Tryz.underlying5 Tryz.underlying9 ?hc]
  case hc =>
    intro j hj
    rw [hlen] at hj
    have hj2 : (a - p.at_).toNat + j < p.data.length := by omega
    have h1 : (byteCells p.data)[(a - p.at_).toNat + j]? = some (.int .u8 (p.data[(a - p.at_).toNat + j].toNat : Int)) := by simp [byteCells, List.getElem?_eq_getElem hj2]
    rw [← b5, List.getElem?_take_of_lt hj2] at h1
    have h2 : w.cell? ⟨p.blk, (a - p.at_).toNat + j, none⟩ = some (.int .u8 (p.data[(a - p.at_).toNat + j].toNat : Int)) := cell_in b3 _ (by simpa using h1)
    rw [addr_addo]
    refine (Below.cell (B := w.heap.size) ((hb1.alloc hsz1 _)) (p := ⟨p.blk, _, none⟩) hbl).trans (h2.trans ?_)
    simp [readL]
  clear b3 b4 b5
  go_wp2
  go_ret2
  exact ⟨hb1.alloc hsz1 _, rfl⟩

set_option maxRecDepth 100000 in
theorem read_zero (s : Nat) (a : Int) (w : World) :
    Calls Tryz.prog 11 #[.pointer (some ⟨s, 0, none⟩), .int .i64 a, .int .i64 0] w fun e w' =>
      Below w.heap.size w w' ∧ e = .returned (.tuple #[.string ⟨#[]⟩, .int .i64 0]) := by
  go_enter Tryz.func11, Tryz.ntmps11
  go_wp2
  go_ret2
  exact ⟨Below.refl _ _, rfl⟩

def areaV (p : Part) : Value := .agg #[.int .i64 p.at_, .int .i64 p.size, .int .i64 p.kind, .int .i64 p.owner, .int .i64 p.mod]

set_option maxRecDepth 100000 in
set_option maxHeartbeats 1000000 in
theorem area_some (s g cap : Nat) (ps : List Part) (a : Int) (w : World) (hA : AreasOk ps) (hsp : SpaceAt w s (.slice (some ⟨g, 0, none⟩) ps.length cap) ps)
    (k : Nat) (hk : LastAt ps a k) (p : Part) (hp : p = ps[k]'hk.lt) (hin : a - p.at_ + 1 ≤ p.size) :
    Calls Tryz.prog 224 #[.pointer (some ⟨s, 0, none⟩), .int .i64 a] w fun e w' =>
      Below w.heap.size w w' ∧ e = .returned (.tuple #[areaV p, .bool true]) := by
  have hls := lt_of_block hsp.head
  have hk1 := hk.le
  rw [← hp] at hk1
  have hmem : p ∈ ps := by rw [hp]; exact List.getElem_mem hk.lt
  obtain ⟨e1, e2, e3, e4, e5⟩ := hA.each p hmem
  have hh : hasB p a 1 = true := by simp [hasB]; omega
  have HF := Lib.hid fun o => find_some s g cap ps a 1 (w.alloc o) hA (hsp.below ((Below.refl _ _).alloc (Nat.le_refl _) _)) k hk (by omega)
  rw [← hp, hh] at HF
  clear hA hsp hk hp hmem e2 hh
  unfold partV bytesV at HF
  unfold areaV
  go_enter Tryz.func224, Tryz.ntmps224
  go_wp2_with (first | ((with_reducible refine at_store_law ?_); refine wpList_store_row rfl _ _ _ rfl _ _ rfl rfl _ _ (by (repeat (first | assumption | exact heap_alloc_new _ _ | refine block_old ?_ | refine block_drew ?_ | apply setRow_heap | (refine (setRow_other _ _ _ _ ?_).trans ?_; omega)))) (by kernel_rfl) (by rfl) (by simp [Value.oneCell']) ?_; (try simp only [World.setRow_alloc_new])) | (go_at_call 31; refine (HF.out _).mono ?_; rintro e w1 ⟨hb1, rfl⟩; have hsz1 := size_call hb1; have hn1 := new_block hb1))
  refine bodyPost_ret (results_cell_tmp rfl _ _ _ _ _ _ _ rfl (by (repeat (first | assumption | exact heap_alloc_new _ _ | refine block_old ?_ | refine block_drew ?_ | apply setRow_heap | (refine (setRow_other _ _ _ _ ?_).trans ?_; omega)))) (Tryz.underlying105) rfl (by kernel_rfl)) rfl ?_
  have hb0 := below_call ((Below.refl _ _).alloc (Nat.le_refl _) _) hb1
  exact ⟨below_setRow (hb0.alloc (by omega) _) (Nat.le_refl _) _, rfl⟩
end Go.Proofs.YtkbilipgidcgeaaGreatDoor

namespace Go.Proofs.YtkbilipgidcgeaaGreatDoor
open Go.RowKit

theorem addr0 (g j : Nat) : (⟨g, 0, none⟩ : Addr).add j = ⟨g, j, none⟩ := by unfold Addr.add; split <;> simp_all

structure Only (S : Nat → Prop) (w w' : World) : Prop where
  os : w'.os = w.os
  tape : w'.tape = w.tape
  output : w'.output = w.output
  size : w.heap.size ≤ w'.heap.size
  block : ∀ k, k < w.heap.size → ¬ S k → w'.heap[k]? = w.heap[k]?

theorem Only.refl (S : Nat → Prop) (w : World) : Only S w w := ⟨rfl, rfl, rfl, Nat.le_refl _, fun _ _ _ => rfl⟩
theorem Only.trans {S : Nat → Prop} {w w1 w2 : World} (h : Only S w w1) (k : Only S w1 w2) : Only S w w2 :=
  ⟨k.os.trans h.os, k.tape.trans h.tape, k.output.trans h.output, Nat.le_trans h.size k.size, fun b hb hs => (k.block b (Nat.lt_of_lt_of_le hb h.size) hs).trans (h.block b hb hs)⟩
theorem Only.mono {S T : Nat → Prop} {w w1 : World} (h : Only S w w1) (hS : ∀ k, k < w.heap.size → S k → T k) : Only T w w1 :=
  ⟨h.os, h.tape, h.output, h.size, fun b hb hs => h.block b hb fun hS' => hs (hS b hb hS')⟩
theorem Only.of_below {S : Nat → Prop} {w w1 : World} (h : Below w.heap.size w w1) : Only S w w1 := ⟨h.os, h.tape, h.output, h.size, fun b hb _ => h.block b hb⟩
theorem Only.below {S : Nat → Prop} {w w1 : World} {B : Nat} (h : Only S w w1) (hB : B ≤ w.heap.size) (hS : ∀ k, S k → B ≤ k) : Below B w w1 :=
  ⟨h.os, h.tape, h.output, h.size, fun b hb => h.block b (by omega) fun hs => by have := hS b hs; omega⟩
theorem Only.of_below_le {S : Nat → Prop} {w w1 : World} {B : Nat} (h : Below B w w1) (hS : ∀ k, k < w.heap.size → B ≤ k → S k) : Only S w w1 :=
  ⟨h.os, h.tape, h.output, h.size, fun b hb hs => h.block b (Nat.lt_of_not_le fun hle => hs (hS b hb hle))⟩
theorem Only.setRow {S : Nat → Prop} {w w1 : World} (h : Only S w w1) (g : Nat) (cs : Array Value) (hg : S g ∨ w.heap.size ≤ g) : Only S w (w1.setRow g cs) :=
  ⟨h.os, h.tape, h.output, by simpa using h.size, fun b hb hs => by
    rw [setRow_other _ _ _ _ (fun e => by subst e; rcases hg with hg | hg; exact hs hg; omega)]
    exact h.block b hb hs⟩
theorem Only.setCell {S : Nat → Prop} {w w1 : World} (h : Only S w w1) (a : Addr) (v : Value) (hg : S a.block ∨ w.heap.size ≤ a.block) : Only S w (w1.setCell a v) :=
  ⟨h.os, h.tape, h.output, by simpa [World.setCell] using h.size, fun b hb hs => by
    rw [Below.heap_setCell _ _ _ _ (fun e => by subst e; rcases hg with hg | hg; exact hs hg; omega)]
    exact h.block b hb hs⟩
theorem Only.alloc {S : Nat → Prop} {w w1 : World} (h : Only S w w1) (o : Obj) : Only S w (w1.alloc o) :=
  h.trans (Only.of_below ((Below.refl _ _).alloc (Nat.le_refl _) _))
theorem Only.drew {S : Nat → Prop} {w w1 : World} (h : Only S w w1) : Only S w w1.drew := ⟨h.os, h.tape, h.output, h.size, h.block⟩
theorem Only.call {S : Nat → Prop} {w w1 w2 : World} (h : Only S w w1) (hb : Below w1.heap.size w1 w2) : Only S w w2 := h.trans (Only.of_below hb)
theorem Only.cell {S : Nat → Prop} {w w1 : World} (h : Only S w w1) {b i : Nat} (hb : b < w.heap.size) (hs : ¬ S b) : w1.cell? ⟨b, i, none⟩ = w.cell? ⟨b, i, none⟩ := World.cell?_of_block (h.block b hb hs)
theorem Only.frozen {S : Nat → Prop} {w w1 : World} (h : Only S w w1) {b i : Nat} (hb : b < w.heap.size) (hs : ¬ S b) : w1.frozen? ⟨b, i, none⟩ = w.frozen? ⟨b, i, none⟩ := World.frozen?_of_block (h.block b hb hs)
theorem Only.kept {S : Nat → Prop} {w w1 : World} (h : Only S w w1) {b : Nat} {o : Obj} (hb : w.heap[b]? = some o) (hs : ¬ S b) : w1.heap[b]? = some o := (h.block b (lt_of_block hb) hs).trans hb
theorem Only.then {S T : Nat → Prop} {w w1 w2 : World} (h : Only S w w1) (k : Only T w1 w2) (hT : ∀ b, b < w.heap.size → T b → S b) : Only S w w2 :=
  ⟨k.os.trans h.os, k.tape.trans h.tape, k.output.trans h.output, Nat.le_trans h.size k.size, fun b hb hs => (k.block b (Nat.lt_of_lt_of_le hb h.size) (fun ht => hs (hT b hb ht))).trans (h.block b hb hs)⟩
end Go.Proofs.YtkbilipgidcgeaaGreatDoor

namespace Go.Proofs.YtkbilipgidcgeaaGreatDoor
open Go.RowKit

attribute [local go_sem] ext_cell ext_frozen

def putL (l : List UInt8) (o : Nat) (x : List UInt8) : List UInt8 := l.take o ++ x ++ l.drop (o + x.length)
theorem putL_length (l : List UInt8) (o : Nat) (x : List UInt8) (h : o + x.length ≤ l.length) : (putL l o x).length = l.length := by simp [putL]; omega

def Part.put (p : Part) (a : Int) (x : List UInt8) : Part := { p with data := putL p.data (a - p.at_).toNat x }

set_option maxRecDepth 100000 in
set_option maxHeartbeats 1000000 in
theorem write_some (s g cap : Nat) (ps : List Part) (a : Int) (x : List UInt8) (w : World) (hA : AreasOk ps) (hsp : SpaceAt w s (.slice (some ⟨g, 0, none⟩) ps.length cap) ps)
    (k : Nat) (hk : LastAt ps a k) (p : Part) (hp : p = ps[k]'hk.lt) (hin : a - p.at_ + x.length ≤ p.size) (hn : x ≠ []) :
    Calls Tryz.prog 35 #[.pointer (some ⟨s, 0, none⟩), .int .i64 a, .string ⟨x.toArray⟩] w fun e w' =>
      e = .returned (.int .i64 0) ∧ Only (· = p.blk) w w' ∧ ∃ cur : Array Value, w.heap[p.blk]? = some (.cells cur 5 (0, 0)) ∧
        w'.heap[p.blk]? = some (.cells (cur.toList.take (a - p.at_).toNat ++ byteCells x ++ cur.toList.drop ((a - p.at_).toNat + x.length)).toArray 5 (0, 0)) := by
  have hls := lt_of_block hsp.head
  have hk1 := hk.le
  rw [← hp] at hk1
  have hmem : p ∈ ps := by rw [hp]; exact List.getElem_mem hk.lt
  obtain ⟨e1, e2, e3, e4, e5⟩ := hA.each p hmem
  obtain ⟨b1, b2, cur, b3, b4, b5⟩ := hsp.bytes.2 p hmem
  have hbl := lt_of_block b3
  have hx0 : 0 < x.length := List.length_pos_iff.2 hn
  have hh : hasB p a x.length = true := by simp [hasB]; omega
  have HF := Lib.hid (find_some s g cap ps a x.length w hA hsp k hk (by omega))
  rw [← hp, hh] at HF
  have hne : x.isEmpty = false := by simpa using hn
  have HB := Lib.hid (And.intro b3 (And.intro b4 b5))
  clear b3 b4 b5 hA hsp hk hp hmem e2 hh
  unfold partV bytesV at HF
  go_enter Tryz.func35, Tryz.ntmps35
  go_wp2_with (first | ((with_reducible refine at_store_law ?_); refine wpList_store_row rfl _ _ _ rfl _ _ rfl rfl _ _ (by (repeat (first | assumption | exact heap_alloc_new _ _ | refine block_old ?_ | refine block_drew ?_ | apply setRow_heap | (refine (setRow_other _ _ _ _ ?_).trans ?_; omega)))) (by kernel_rfl) (by rfl) (by simp [Value.oneCell']) ?_; (try simp only [World.setRow_alloc_new])) | (go_at_call 31; refine HF.out.mono ?_; rintro e w1 ⟨hb1, rfl⟩; have hsz1 := hb1.size))
  obtain ⟨b3, b4, b5⟩ := HB.out
  have hcl : x.length + (a - p.at_).toNat ≤ cur.size := by omega
  have hbW : (w1.alloc (.cells #[.int .i64 p.at_, .int .i64 p.size, .int .i64 p.kind, .int .i64 p.owner, .int .i64 p.mod, .slice (some ⟨p.blk, 0, none⟩) p.size.toNat p.cap] 107)).heap[p.blk]? = some (.cells cur 5 (0, 0)) :=
    block_old ((hb1.block _ hbl).trans b3)
  have hsz : (⟨x.toArray⟩ : ByteArray).size = x.length := by simp [ByteArray.size]
  rw [Lib.run_copy_row_string _ 76 9 3 5 p.blk (a - p.at_).toNat (p.size.toNat - (a - p.at_).toNat) (p.cap - (a - p.at_).toNat) ⟨x.toArray⟩ cur 5 Tryz.underlying76 (by kernel_rfl) hbW (by rw [hsz]; omega) (by rw [hsz]; omega)]
  rw [hsz]
  have HW := Lib.hid hbW
  clear b3 b4 b5 hbW
  go_wp2
  go_ret
  obtain ⟨b3, b4, b5⟩ := HB.out
  refine ⟨rfl, ?_, cur, b3, ?_⟩
  · exact ((Only.of_below hb1).alloc _).setRow _ _ (.inl rfl)
  · refine (setRow_heap _ _ _ _ _ _ HW.out).trans ?_
    simp only [List.append_assoc]
    rfl

theorem byteCells_append (l m : List UInt8) : byteCells (l ++ m) = byteCells l ++ byteCells m := by simp [byteCells]
theorem byteCells_length (l : List UInt8) : (byteCells l).length = l.length := by simp [byteCells]
theorem byteCells_take (l : List UInt8) (n : Nat) : byteCells (l.take n) = (byteCells l).take n := by simp [byteCells]
theorem byteCells_drop (l : List UInt8) (n : Nat) : byteCells (l.drop n) = (byteCells l).drop n := by simp [byteCells]

theorem partCells_put (p : Part) (a : Int) (x : List UInt8) : partCells (p.put a x) = partCells p := rfl

theorem partsCells_set (ps : List Part) (k : Nat) (hk : k < ps.length) (p : Part) (h : partCells p = partCells ps[k]) : partsCells (ps.set k p) = partsCells ps := by
  induction ps generalizing k with
  | nil => simp at hk
  | cons q ps ih =>
    cases k with
    | zero => simp [partsCells] at h ⊢; exact h
    | succ k =>
      have := ih k (by simpa using hk) (by simpa using h)
      simp [partsCells] at this ⊢
      exact this

/-- A part's bytes were written. -/
theorem SpaceAt.put {w w' : World} {s : Nat} {pv : Value} {ps : List Part} (h : SpaceAt w s pv ps) {k : Nat} (hk : k < ps.length) {a : Int} {x : List UInt8}
    (ho : Only (· = ps[k].blk) w w') (hs : s ≠ ps[k].blk) (hg : pv.ownBlock ≠ some ps[k].blk)
    (hin : (a - ps[k].at_).toNat + x.length ≤ ps[k].data.length)
    (hb : ∃ cur : Array Value, w.heap[ps[k].blk]? = some (.cells cur 5 (0, 0)) ∧
        w'.heap[ps[k].blk]? = some (.cells (cur.toList.take (a - ps[k].at_).toNat ++ byteCells x ++ cur.toList.drop ((a - ps[k].at_).toNat + x.length)).toArray 5 (0, 0))) :
    SpaceAt w' s pv (ps.set k (ps[k].put a x)) := by
  obtain ⟨cur, hc, hc'⟩ := hb
  refine ⟨ho.kept h.head hs, ?_, ?_, ?_⟩
  · have hpc := partsCells_set ps k hk (ps[k].put a x) (partCells_put _ _ _)
    rw [hpc, List.length_set]
    refine ⟨h.row.1, ?_⟩
    rcases h.row.2 with h2 | ⟨g, cap, cur, rfl, h0, hgg, r⟩
    · exact .inl h2
    · exact .inr ⟨g, cap, cur, rfl, h0, ho.kept hgg (fun e => hg (by simp [Value.ownBlock, e])), r⟩
  · have : (ps.set k (ps[k].put a x)).map (·.blk) = ps.map (·.blk) := by
      rw [List.map_set]
      have : ((ps[k].put a x).blk) = (ps.map (·.blk))[k]'(by simpa using hk) := by simp [Part.put]
      rw [this, List.set_getElem_self]
    rw [this]
    exact h.bytes.1
  · intro q hq
    obtain ⟨j, hj, hjq⟩ := List.getElem_of_mem hq
    rw [List.length_set] at hj
    by_cases hjk : j = k
    · subst hjk
      rw [List.getElem_set_self] at hjq
      subst hjq
      obtain ⟨h1, h2, cur', h3, h4, h5⟩ := h.bytes.2 _ (List.getElem_mem hk)
      rw [hc] at h3
      simp at h3
      subst h3
      have hl := putL_length ps[j].data (a - ps[j].at_).toNat x hin
      refine ⟨by simpa [Part.put, hl] using h1, by simpa [Part.put, hl] using h2, _, hc', ?_, ?_⟩
      · simp [Part.put, byteCells_length]; omega
      · simp only [Part.put, hl]
        unfold putL
        rw [byteCells_append, byteCells_append, byteCells_take, byteCells_drop, ← h5]
        apply List.ext_getElem?
        intro i
        simp only [List.getElem?_take, List.getElem?_append, List.getElem?_drop, List.length_take, List.length_append, byteCells_length, Array.length_toList]
        split <;> repeat' split
        all_goals first | rfl | omega | (congr 1; omega) | skip
    · rw [List.getElem_set_ne (by omega)] at hjq
      subst hjq
      obtain ⟨h1, h2, cur', h3, h4, h5⟩ := h.bytes.2 _ (List.getElem_mem hj)
      refine ⟨h1, h2, cur', ho.kept h3 ?_, h4, h5⟩
      intro e
      apply hjk
      have hn := h.bytes.1
      exact (List.getElem_inj (h₀ := by simpa using hj) (h₁ := by simpa using hk) hn).1 (by simpa using e)
end Go.Proofs.YtkbilipgidcgeaaGreatDoor

namespace Go.Proofs.YtkbilipgidcgeaaGreatDoor
open Go.RowKit

attribute [local go_sem] ext_cell ext_frozen

set_option maxRecDepth 100000 in
set_option maxHeartbeats 1000000 in
theorem right_ok (at_ size kind owner mod : Int) (w : World) (h1 : 256 ≤ at_) (h2 : at_ < 1099511627776) (h3 : upI at_ 256 = at_) (h4 : 1 ≤ size) (h5 : size ≤ 1048576) (h6 : at_ + size ≤ 1099511627776) (h7 : 0 ≤ kind) (h8 : kind < 5) :
    Calls Tryz.prog 159 #[.agg #[.int .i64 at_, .int .i64 size, .int .i64 kind, .int .i64 owner, .int .i64 mod]] w fun e w' =>
      e = .returned (.bool true) ∧ Below w.heap.size w w' := by
  go_enter Tryz.func159, Tryz.ntmps159
  go_wp2
  refine region_ext (by kernel_rfl) (by kernel_rfl) ?_
  repeat (go_big_quiet_step ((first | (go_at_call 105; exact calls_ext ((up_any _ _ _ (by omega) (by omega) (by omega) (by omega)).mono fun e w' ⟨h, h'⟩ => ⟨h, by subst h'; exact Below.refl _ _⟩)))))
  refine region_ext_end ?_
  intro w1 hb1
  have hn1 := new_block hb1
  (have c0 := cell_l hn1 0 rfl; have f0 := free_in hn1 0; have c1 := cell_l hn1 1 rfl; have f1 := free_in hn1 1; have c2 := cell_l hn1 2 rfl; have f2 := free_in hn1 2; have c3 := cell_l hn1 3 rfl; have f3 := free_in hn1 3; have c4 := cell_l hn1 4 rfl; have f4 := free_in hn1 4)
  have hsz1 := size_call hb1
  have HN := Lib.hid hn1
  clear hn1
  go_wp2
  go_ret
  exact ⟨rfl, below_call ((Below.refl _ _).alloc (Nat.le_refl _) _) hb1⟩

theorem new_any (w : World) : Calls Tryz.prog 20 #[] w fun e w' => e = .returned (.pointer (some ⟨w.heap.size, 0, none⟩)) ∧ w' = w.alloc (.cells #[.slice none 0 0] 141) := by
  go_enter Tryz.func20, Tryz.ntmps20
  go_wp2
  go_ret
  exact ⟨rfl, rfl⟩

theorem write_none (s : Nat) (a : Int) (w : World) :
    Calls Tryz.prog 35 #[.pointer (some ⟨s, 0, none⟩), .int .i64 a, .string ⟨#[]⟩] w fun e w' => e = .returned (.int .i64 0) ∧ w' = w := by
  go_enter Tryz.func35, Tryz.ntmps35
  go_wp2
  go_ret
  exact ⟨rfl, rfl⟩

theorem info_part : (Tryz.prog.info? 107).map (fun i => (i.zero, i.size, i.bytes)) = some (some (.agg #[.int .i64 0, .int .i64 0, .int .i64 0, .int .i64 0, .int .i64 0, .slice none 0 0]), 6, 64) := by kernel_rfl

theorem partCells_one (p : Part) : ∀ v ∈ partCells p, v.oneCell' = true := by
  intro v hv
  simp [partCells, areaCells, bytesV] at hv
  rcases hv with rfl | rfl | rfl | rfl | rfl | rfl <;> rfl

set_option maxRecDepth 100000 in
set_option maxHeartbeats 1000000 in
theorem insert_end (v : Value) (ps : List Part) (q : Part) (b : Nat) (w : World) (hl : ps.length ≤ 4096) (hq : w.heap[b]? = some (.cells (partCells q).toArray 107 (0, 0)))
    (hown : w.ownsRow 0 107 6 v ps.length (partsCells ps)) :
    Calls Tryz.prog 160 #[v, .int .i64 ps.length, .slice (some ⟨b, 0, none⟩) 1 1] w fun e w' =>
      ∃ g cap, e = .returned (.slice (some ⟨g, 0, none⟩) (ps.length + 1) cap) ∧ w'.ownsRow 0 107 6 (.slice (some ⟨g, 0, none⟩) (ps.length + 1) cap) (ps.length + 1) (partsCells (ps ++ [q])) ∧ (v.ownBlock = some g ∨ w.heap.size ≤ g) ∧ Only (fun b => v.ownBlock = some b) w w' := by
  obtain ⟨i0, hi, hz0, hz1, hz2⟩ := info_parts info_part
  have HO := Lib.hid hown
  rcases hown.2 with ⟨rfl, h⟩ | ⟨g, cap, cur, rfl, _⟩
  · obtain rfl : ps = [] := List.eq_nil_of_length_eq_zero h
    clear hown
    go_enter Tryz.func160, Tryz.ntmps160
    go_wp2_with (at_builtin; refine wpList_append_lies _ rfl _ _ _ rfl 0 107 i0 (.agg #[.int .i64 0, .int .i64 0, .int .i64 0, .int .i64 0, .int .i64 0, .slice none 0 0]) 6 64 Tryz.underlying139 hi hz0 hz1 hz2 rfl (by omega) _ _ _ rfl HO.out ⟨b, 0, none⟩ 1 1 (partCells q) rfl rfl ?c1 ?c2 (by omega) ?c3 ?c4 ?c5 w.heap.size rfl ?_)
    case c1 => exact World.news_of_block hq
    case c2 => exact partCells_one q
    case c3 => simp [maxLen]
    case c4 => simp
    case c5 => omega
    intro g cap w1 hown1 hgrow hat hlt1
    have HH := Lib.hid (And.intro hown1 (And.intro hgrow (And.intro hat hlt1)))
    clear hown1 hgrow hat hlt1
    go_wp2
    go_ret
    obtain ⟨hown1, hgrow, hat, hlt1⟩ := HH.out
    refine ⟨g, cap, rfl, ?_, ?_, ⟨hgrow.os, hgrow.tape, hgrow.output, hgrow.size, fun k hk hs => hgrow.block k hk fun e => hs e.symm⟩⟩
    · have hpc : partsCells [q] = partsCells [] ++ partCells q := by simp [partsCells]
      rw [hpc]
      exact hown1
    · rcases hat with h' | h'
      · exact .inl h'
      · exact .inr (by omega)
  · clear hown
    have hcap : ps.length ≤ cap := by
      rcases HO.out.2 with ⟨h, _⟩ | ⟨g', cap', cur', h, _, _, h1, _⟩
      · cases h
      · cases h; exact h1
    by_cases hce : cap = ps.length
    · subst hce
      go_enter Tryz.func160, Tryz.ntmps160
      go_wp2_with (at_builtin; refine wpList_append_lies _ rfl _ _ _ rfl 0 107 i0 (.agg #[.int .i64 0, .int .i64 0, .int .i64 0, .int .i64 0, .int .i64 0, .slice none 0 0]) 6 64 Tryz.underlying139 hi hz0 hz1 hz2 rfl (by omega) _ _ _ rfl HO.out ⟨b, 0, none⟩ 1 1 (partCells q) rfl rfl ?c1 ?c2 (by omega) ?c3 ?c4 ?c5 w.heap.size rfl ?_)
      case c1 => exact World.news_of_block hq
      case c2 => exact partCells_one q
      case c3 => unfold maxLen; omega
      case c4 => omega
      case c5 => omega
      intro g cap w1 hown1 hgrow hat hlt1
      have HH := Lib.hid (And.intro hown1 (And.intro hgrow (And.intro hat hlt1)))
      clear hown1 hgrow hat hlt1
      go_wp2
      go_ret
      obtain ⟨hown1, hgrow, hat, hlt1⟩ := HH.out
      refine ⟨g, cap, rfl, ?_, ?_, ⟨hgrow.os, hgrow.tape, hgrow.output, hgrow.size, fun k hk hs => hgrow.block k hk fun e => hs e.symm⟩⟩
      · have hpc : partsCells (ps ++ [q]) = partsCells ps ++ partCells q := by simp [partsCells]
        rw [hpc]
        exact hown1
      · rcases hat with h' | h'
        · exact .inl h'
        · exact .inr (by omega)
    · go_enter Tryz.func160, Tryz.ntmps160
      go_wp2_with (at_builtin; refine wpList_append_lies _ rfl _ _ _ rfl 0 107 i0 (.agg #[.int .i64 0, .int .i64 0, .int .i64 0, .int .i64 0, .int .i64 0, .slice none 0 0]) 6 64 Tryz.underlying139 hi hz0 hz1 hz2 rfl (by omega) _ _ _ rfl HO.out ⟨b, 0, none⟩ 1 1 (partCells q) rfl rfl ?c1 ?c2 (by omega) ?c3 ?c4 ?c5 w.heap.size rfl ?_)
      case c1 => exact World.news_of_block hq
      case c2 => exact partCells_one q
      case c3 => unfold maxLen; omega
      case c4 => omega
      case c5 => omega
      intro g cap w1 hown1 hgrow hat hlt1
      have HH := Lib.hid (And.intro hown1 (And.intro hgrow (And.intro hat hlt1)))
      clear hown1 hgrow hat hlt1
      go_wp2
      go_ret
      obtain ⟨hown1, hgrow, hat, hlt1⟩ := HH.out
      refine ⟨g, cap, rfl, ?_, ?_, ⟨hgrow.os, hgrow.tape, hgrow.output, hgrow.size, fun k hk hs => hgrow.block k hk fun e => hs e.symm⟩⟩
      · have hpc : partsCells (ps ++ [q]) = partsCells ps ++ partCells q := by simp [partsCells]
        rw [hpc]
        exact hown1
      · rcases hat with h' | h'
        · exact .inl h'
        · exact .inr (by omega)
end Go.Proofs.YtkbilipgidcgeaaGreatDoor

namespace Go.Proofs.YtkbilipgidcgeaaGreatDoor
open Go.RowKit

attribute [local go_sem] ext_cell ext_frozen

theorem search_end (s : Nat) (pv : Value) (ps : List Part) (a : Int) (w : World) (hA : AreasOk ps) (hsp : SpaceAt w s pv ps) (hk : ∀ p ∈ ps, p.at_ < a) :
    Calls Tryz.prog 75 #[.pointer (some ⟨s, 0, none⟩), .int .i64 a] w fun e w' =>
      Below w.heap.size w w' ∧ e = .returned (.tuple #[.int .i64 ps.length, .bool false]) :=
  (search_any s pv ps a w hA hsp).mono fun e w' ⟨hb, i, ⟨h1, h2, h3⟩, h⟩ => by
    obtain rfl : i = ps.length := by
      rcases Nat.lt_or_ge i ps.length with h0 | h0
      · have := h3 i h0 (Nat.le_refl _)
        have := hk _ (List.getElem_mem h0)
        omega
      · omega
    refine ⟨hb, ?_⟩
    rw [h]
    simp

def newPart (at_ size kind owner mod : Int) (blk : Nat) : Part := { at_ := at_, size := size, kind := kind, owner := owner, mod := mod, blk := blk, cap := size.toNat, data := List.replicate size.toNat 0 }

theorem info_byte : (Tryz.prog.info? 5).map (fun i => (i.zero, i.size, i.bytes)) = some (some (.int .u8 0), 1, 1) := by kernel_rfl

theorem map_finish {s g4 cap4 : Nat} {pv : Value} {ps : List Part} {at_ size kind owner mod : Int} {M : Array Value} {w w3 w4 : World} {V : Array Value}
    (hs : SpaceAt w3 s pv ps) (hb : Below w.heap.size w w3) (hls : s < w.heap.size) (hbl : ∀ p ∈ ps, p.blk < w.heap.size) (h4 : 1 ≤ size) (h5 : size ≤ 1048576) (hM : M = madeCells (Value.cells (.int .u8 0)) (size.toNat * 1))
    (hown4 : w4.ownsRow 0 107 6 (.slice (some ⟨g4, 0, none⟩) (ps.length + 1) cap4) (ps.length + 1) (partsCells (ps ++ [newPart at_ size kind owner mod w3.heap.size])))
    (hat4 : pv.ownBlock = some g4 ∨ ((w3.drew.alloc (.cells M 5)).alloc (.cells V 107)).heap.size ≤ g4)
    (hk4 : Only (fun b => pv.ownBlock = some b) ((w3.drew.alloc (.cells M 5)).alloc (.cells V 107)) w4) :
    Only (fun b => b = s ∨ pv.ownBlock = some b) w (w4.setCell ⟨s, 0, none⟩ (.slice (some ⟨g4, 0, none⟩) (ps.length + 1) cap4)) ∧
    ∃ pv' blk, SpaceAt (w4.setCell ⟨s, 0, none⟩ (.slice (some ⟨g4, 0, none⟩) (ps.length + 1) cap4)) s pv' (ps ++ [newPart at_ size kind owner mod blk]) ∧ w.heap.size ≤ blk ∧
        (pv'.ownBlock = pv.ownBlock ∨ ∃ g, pv'.ownBlock = some g ∧ w.heap.size ≤ g) := by
  have hsz := hb.size
  have hgt : ∀ b t (o : Array Value), w3.heap[b]? = some (.cells o t (0, 0)) → t ≠ 107 → ¬ (pv.ownBlock = some b) := fun b t o hb' ht he => by
    obtain ⟨cur, hcur⟩ := ownsRow_block hs.row b he
    rw [hb'] at hcur
    simp at hcur
    exact ht hcur.2
  have hnew : (Only (fun b => pv.ownBlock = some b) w3 w4) := ((((Only.refl _ _).drew).alloc _).alloc _).trans hk4
  have hs4 : w4.heap[s]? = some (.cells #[pv] 141 (0, 0)) := hnew.kept hs.head (hgt _ _ _ hs.head (by decide))
  have hgs : g4 ≠ s := by
    rcases hown4.2 with ⟨h, _⟩ | ⟨g, cap, cur, h, _, hg, _⟩
    · cases h
    · cases h
      intro e
      rw [e, hs4] at hg
      simp at hg
  have hM4 : w4.heap[w3.heap.size]? = some (.cells M 5 (0, 0)) := by
    refine hk4.kept (block_old (heap_alloc_new w3.drew _)) ?_
    intro he
    obtain ⟨cur, hcur⟩ := ownsRow_block hs.row _ he
    have := lt_of_block hcur
    omega
  have hl : (List.replicate size.toNat (0 : UInt8)).length = size.toNat := by simp
  refine ⟨?_, _, w3.heap.size, ⟨one_setCell hs4, ?_, ?_, ?_⟩, hsz, ?_⟩
  · have := (hnew.mono (T := fun b => b = s ∨ pv.ownBlock = some b) (fun _ _ h => .inr h))
    exact ((Only.of_below hb).trans this).setCell _ _ (.inl (.inl rfl))
  · rw [List.length_append]
    exact ownsRow_setCell_other hown4 (by simpa [Value.ownBlock] using hgs) _
  · rw [List.map_append, List.nodup_append]
    refine ⟨hs.bytes.1, by simp, ?_⟩
    intro b hb' c hc' e
    simp [newPart] at hc'
    obtain ⟨q, hq, rfl⟩ := List.mem_map.1 hb'
    have := hbl q hq
    subst hc'
    exact absurd e (by show q.blk ≠ w3.heap.size; omega)
  · intro q hq
    rcases List.mem_append.1 hq with hq | hq
    · obtain ⟨h1, h2, cur, h3, h4', h5'⟩ := hs.bytes.2 q hq
      have hne : q.blk ≠ s := by
        intro e
        rw [e, hs.head] at h3
        simp at h3
      exact ⟨h1, h2, cur, block_other (hnew.kept h3 (hgt _ _ _ h3 (by decide))) _ _ hne, h4', h5'⟩
    · simp at hq
      subst hq
      refine ⟨by simp [newPart]; omega, by simp [newPart], M, block_other hM4 _ _ (by show w3.heap.size ≠ s; omega), ?_, ?_⟩
      · rw [hM, size_madeCells]; simp [newPart]
      · rw [hM]
        show List.take _ (madeCells #[.int .u8 0] (size.toNat * 1)).toList = _
        rw [toList_madeCells_one]
        simp [newPart, byteCells]
  · rcases hat4 with h | h
    · exact .inl h.symm
    · exact .inr ⟨g4, rfl, by simp at h; omega⟩

end Go.Proofs.YtkbilipgidcgeaaGreatDoor
