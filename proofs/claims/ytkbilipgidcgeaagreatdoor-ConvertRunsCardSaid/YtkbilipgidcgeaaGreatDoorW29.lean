/- convert: within. convert: Run, a piece outside. copy of a string into bytes of the call's own, whatever the lengths; and what stands behind it. Plain: what pieces make of bytes. -/
import Derived.Test.YtkbilipgidcgeaaGreatDoorW28
import Derived.Laws.IdiomStrings
import Derived.Lib.BufferWrite
import Derived.Laws.IdiomCopy
import Derived.StillTailTactics
import Derived.Test.YtkbilipgidcgeaaGreatDoorW10
import Derived.Test.YtkbilipgidcgeaaGreatDoorW27
import Derived.Test.YtkbilipgidcgeaaGreatDoorW11
import Derived.Test.YtkbilipgidcgeaaGreatDoorW05
set_option linter.unusedVariables false
set_option linter.unusedSimpArgs false
namespace Go.Proofs.YtkbilipgidcgeaaGreatDoor
open Go.RowKit Go.ChangeMaps
attribute [local go_sem] ext_cell ext_frozen

/-- A piece. -/
structure Pc where
  f : Int
  s : Int
  t : Int
def pcCells (x : Pc) : List Value := [.int .i64 x.f, .int .i64 x.s, .int .i64 x.t]
def withinB (x : Pc) (old new : Int) : Bool := decide (0 ≤ x.f) && (decide (0 ≤ x.s) && (decide (0 ≤ x.t) && (decide (x.s ≤ old) && (decide (x.f ≤ old - x.s) && (decide (x.s ≤ new) && decide (x.t ≤ new - x.s))))))

set_option maxRecDepth 100000 in
set_option maxHeartbeats 2000000 in
theorem cwithin (x : Pc) (old new : Int) (w : World) (h0 : 0 ≤ old) (h1 : old ≤ 100000) (h2 : 0 ≤ new) (h3 : new ≤ 100000) :
    Calls Tryz.prog 33 #[.agg #[.int .i64 x.f, .int .i64 x.s, .int .i64 x.t], .int .i64 old, .int .i64 new] w fun e w' => e = .returned (.bool (withinB x old new)) ∧ Below w.heap.size w w' := by
  obtain ⟨f, s, t⟩ := x
  unfold withinB
  dsimp only
  by_cases a1 : 0 ≤ f
  · by_cases a2 : 0 ≤ s
    · by_cases a3 : 0 ≤ t
      · by_cases a4 : s ≤ old
        · by_cases a5 : f ≤ old - s
          · by_cases a6 : s ≤ new
            · by_cases a7 : t ≤ new - s
              · go_enter Tryz.func33, Tryz.ntmps33
                go_wp2
                go_ret
                exact ⟨by simp [*]; try omega, by go_grown⟩
              · go_enter Tryz.func33, Tryz.ntmps33
                go_wp2
                go_ret
                exact ⟨by simp [*]; try omega, by go_grown⟩
            · go_enter Tryz.func33, Tryz.ntmps33
              go_wp2
              go_ret
              exact ⟨by simp [*]; try omega, by go_grown⟩
          · go_enter Tryz.func33, Tryz.ntmps33
            go_wp2
            go_ret
            exact ⟨by simp [*]; try omega, by go_grown⟩
        · go_enter Tryz.func33, Tryz.ntmps33
          go_wp2
          go_ret
          exact ⟨by simp [*]; try omega, by go_grown⟩
      · go_enter Tryz.func33, Tryz.ntmps33
        go_wp2
        go_ret
        exact ⟨by simp [*]; try omega, by go_grown⟩
    · go_enter Tryz.func33, Tryz.ntmps33
      go_wp2
      go_ret
      exact ⟨by simp [*]; try omega, by go_grown⟩
  · go_enter Tryz.func33, Tryz.ntmps33
    go_wp2
    go_ret
    exact ⟨by simp [*]; try omega, by go_grown⟩
end Go.Proofs.YtkbilipgidcgeaaGreatDoor

namespace Go.Proofs.YtkbilipgidcgeaaGreatDoor
open Go.RowKit
attribute [local go_sem] ext_cell ext_frozen

set_option maxRecDepth 100000 in
theorem pspace (p s b l : Nat) (th : Value) (w : World) (hp : w.heap[p]? = some (.cells (procC s b l th).toArray 81 (0, 0))) :
    Calls Tryz.prog 9 #[.pointer (some ⟨p, 0, none⟩)] w fun e w' => e = .returned (.pointer (some ⟨s, 0, none⟩)) ∧ w = w' := by
  have lp := lt_of_block hp
  unfold procC at hp
  have c0 := cell_l hp 0 rfl
  clear hp
  go_enter Tryz.func9, Tryz.ntmps9
  go_wp2
  go_ret
  exact ⟨rfl, rfl⟩

attribute [local irreducible] labCells modC threadC

set_option maxRecDepth 100000 in
theorem pmods (B : ByteArray) (p s l gm cm : Nat) (w : World) (hP : ProcLite B w p s l gm cm) :
    Calls Tryz.prog 32 #[.pointer (some ⟨p, 0, none⟩)] w fun e w' => Below w.heap.size w w' ∧ ∃ g c, e = .returned (.slice (some ⟨g, 0, none⟩) 1 c) ∧ w'.ownsRow w.heap.size 91 32 (.slice (some ⟨g, 0, none⟩) 1 c) 1 (modC B 512 1) := by
  obtain ⟨⟨b, th, hp⟩, ⟨s', b', st, ord, hl⟩, hm⟩ := hP
  have lp := lt_of_block hp
  unfold procC at hp
  have c2 := cell_l hp 2 rfl
  have HH := Lib.hid (And.intro hl hm)
  clear hp hl hm
  go_enter Tryz.func32, Tryz.ntmps32
  go_wp2_with (go_at_call 26; refine (lmods l s' b' st gm cm ord B _ HH.out.1 HH.out.2).mono ?_; rintro e w1 ⟨hb1, g, c, rfl, hown⟩; have H1 := Lib.hid (And.intro hb1 hown); clear hb1 hown)
  go_ret
  exact ⟨H1.out.1, g, c, rfl, H1.out.2⟩

/-- The pieces in memory. -/
structure PcsAt (w : World) (g o : Nat) (l : List Pc) : Prop where
  at_ : w.rangeAt g o (l.flatMap pcCells)

theorem pcs_get (l : List Pc) : ∀ (i : Nat) (hi : i < l.length) (j : Nat), j < 3 → (l.flatMap pcCells)[i * 3 + j]? = (pcCells l[i])[j]? := by
  induction l with
  | nil => intro i hi; simp at hi
  | cons x l ih =>
    intro i hi j hj
    cases i with
    | zero => simp only [List.flatMap_cons, Nat.zero_mul, Nat.zero_add, List.getElem_cons_zero]; rw [List.getElem?_append_left (by simp [pcCells]; omega)]
    | succ i =>
      simp only [List.flatMap_cons, List.getElem_cons_succ]
      rw [List.getElem?_append_right (by simp [pcCells]; omega), ← ih i (by simpa using hi) j hj]
      congr 1
      simp [pcCells]; omega

theorem PcsAt.three {w : World} {g o : Nat} {l : List Pc} (h : PcsAt w g o l) (i : Nat) (hi : i < l.length) :
    w.cell? ⟨g, o + i * 3, none⟩ = some (.int .i64 l[i].f) ∧ w.cell? ⟨g, o + i * 3 + 1, none⟩ = some (.int .i64 l[i].s) ∧ w.cell? ⟨g, o + i * 3 + 2, none⟩ = some (.int .i64 l[i].t) :=
  ⟨h.at_ _ _ (pcs_get l i hi 0 (by omega)), by have := h.at_ _ _ (pcs_get l i hi 1 (by omega)); rwa [← Nat.add_assoc] at this, by have := h.at_ _ _ (pcs_get l i hi 2 (by omega)); rwa [← Nat.add_assoc] at this⟩

theorem PcsAt.lt {w : World} {g o : Nat} {l : List Pc} (h : PcsAt w g o l) (hn : 0 < l.length) : g < w.heap.size :=
  World.block_lt_of_cell? w _ (h.three 0 hn).1

theorem PcsAt.below {w w' : World} {g o : Nat} {l : List Pc} (h : PcsAt w g o l) (hb : Below w.heap.size w w') : PcsAt w' g o l :=
  ⟨fun j v hv => (hb.cell (p := ⟨g, o + j, none⟩) (World.block_lt_of_cell? w _ (h.at_ j v hv))).trans (h.at_ j v hv)⟩

/-- A value's number. -/
def pI : Value → Int | .int _ q => q | _ => 0

/-- The conversion's cells. -/
def convC (o1 s1 f1 : ByteArray) (pv : Value) (code : Int) : Array Value := #[.string o1, .string s1, .string f1, pv, .int .i64 code]

theorem ProcLite.below {B : ByteArray} {w w' : World} {p s l gm cm : Nat} (h : ProcLite B w p s l gm cm) (hb : Below w.heap.size w w') : ProcLite B w' p s l gm cm := by
  obtain ⟨⟨b, th, hp⟩, ⟨s', b', st, ord, hl⟩, hm⟩ := h
  exact ⟨⟨b, th, (hb.block _ (lt_of_block hp)).trans hp⟩, ⟨s', b', st, ord, (hb.block _ (lt_of_block hl)).trans hl⟩, ownsRow_below' hm hb⟩

theorem all_of_upto {l : List Pc} {f : Pc → Bool} (h : ∀ j (hj : j < l.length), f l[j] = true) : l.all f = true := by
  rw [List.all_eq_true]
  intro x hx
  obtain ⟨j, hj, rfl⟩ := List.getElem_of_mem hx
  exact h j hj

set_option maxRecDepth 100000 in
set_option maxHeartbeats 2000000 in
theorem crun_bad (B : ByteArray) (p s l gm cm g o cap : Nat) (pcs : List Pc) (oa n0 to_ : Int) (o1 s1 f1 : ByteArray) (code : Int) (bs : ByteArray) (w : World) (hP : ProcLite B w p s l gm cm) (hpc : PcsAt w g o pcs) (hg : g < w.heap.size) (hlen : pcs.length ≤ 100)
    (h0 : 0 ≤ n0) (h1 : n0 ≤ 100000) (h2 : bs.size ≤ 100000) (hbad : pcs.all (withinB · n0 bs.size) = false) :
    Calls Tryz.prog 12 #[.pointer (some ⟨p, 0, none⟩), .int .i64 0, .agg #[.int .i64 oa, .int .i64 n0], .int .i64 to_, .agg (convC o1 s1 f1 (.slice (some ⟨g, o, none⟩) pcs.length cap) code), .string bs] w fun e w' => e = .returned (.int .i64 1) ∧ Below w.heap.size w w' := by
  have HP := Lib.hid hP
  have HC := Lib.hid hpc
  have HB := Lib.hid hbad
  clear hP hpc hbad
  unfold convC
  go_enter Tryz.func12, Tryz.ntmps12
  go_wp2_with (first
    | (go_at_call 32; refine (pmods B p s l gm cm _ (HP.out.below (by go_grown))).mono ?_
       rintro e w1 ⟨hb1, gx, cx, rfl, hown1⟩
       have hbase := (row_cell hown1 26 (modC_get26 B 512 1)).1
       have lgx := (ownsRow_lt hown1).2.1
       have k8 := (hb1.block w.heap.size (by simp; omega)).trans (block_old (heap_alloc_new w _))
       have k10 := (hb1.block (w.heap.size + 1) (by simp)).trans (heap_alloc2_new w _ _)
       have e1 := cell_in k8 1 rfl
       have m3 := cell_in k10 3 rfl
       have ls1 := size_call2 hb1
       have hB1 := below_call (((Below.refl _ _).alloc (Nat.le_refl _) _).alloc (by simp) _) hb1
       have H1 := Lib.hid hB1; clear hb1 hown1 k8 k10 hB1))
  go_loopw [12, 50] (fun _ i wr => ∃ k : Nat, k ≤ pcs.length ∧ i = .int .i64 k ∧ (∀ j (hj : j < pcs.length), j < k → withinB pcs[j] n0 bs.size = true) ∧ Below w1.heap.size w1 wr) (fun _ i _ => pcs.length - (pI i).toNat)
  case atStart => exact ⟨0, Nat.zero_le _, rfl, fun j _ h => absurd h (by omega), Below.refl _ _⟩
  case round =>
    obtain ⟨k, hk, rfl, hall, hb⟩ := hrel
    have HA := Lib.hid hall
    clear hall
    by_cases hlt : k < pcs.length
    · obtain ⟨d0, d1, d2⟩ := ((HC.out.below H1.out).below hb).three k hlt
      have f1' := (hb.cell (p := ⟨w.heap.size, 1, none⟩) (show w.heap.size < w1.heap.size by omega)).trans e1
      have hsz := hb.size
      have hgr : g < wr.heap.size := by have := H1.out.size; omega
      have hwr : w.heap.size < wr.heap.size := by omega
      obtain ⟨x, hx⟩ : ∃ x, x = pcs[k] := ⟨_, rfl⟩
      rw [← hx] at d0 d1 d2
      have HH := Lib.hid (And.intro hx hb)
      clear hx hb
      cases hw : withinB x n0 bs.size with
      | true =>
        have HW := Lib.hid hw
        clear hw
        go_wp2_with (first
          | ((with_reducible refine at_store_law ?_); refine wpList_store_row rfl _ _ _ rfl _ _ rfl rfl _ _ (by (repeat (first | assumption | exact heap_alloc_new _ _ | refine block_old ?_ | refine block_drew ?_ | apply setRow_heap | (refine (setRow_other _ _ _ _ ?_).trans ?_; omega)))) (by kernel_rfl) (by rfl) (by simp [Value.oneCell']) ?_; (try simp only [World.setRow_alloc_new]))
          | (go_at_call 33; refine (cwithin x n0 bs.size _ h0 h1 (by omega) (by omega)).mono ?_; rintro e w2 ⟨rfl, hb2⟩; rw [HW.out]; have H2 := Lib.hid hb2; clear hb2))
        go_roundw
        case rel =>
          obtain ⟨hx, hb⟩ := HH.out
          refine ⟨k + 1, by omega, by go_num, fun j hj hjk => ?_, hb.trans (below_call ((Below.refl _ _).alloc (Nat.le_refl _) _) H2.out |>.mono hb.size)⟩
          by_cases hjk' : j = k
          · subst hjk'; rw [← hx]; exact HW.out
          · exact HA.out j hj (by omega)
        case measure => simp [pI]; omega
      | false =>
        have HW := Lib.hid hw
        clear hw
        go_wp2_with (first
          | ((with_reducible refine at_store_law ?_); refine wpList_store_row rfl _ _ _ rfl _ _ rfl rfl _ _ (by (repeat (first | assumption | exact heap_alloc_new _ _ | refine block_old ?_ | refine block_drew ?_ | apply setRow_heap | (refine (setRow_other _ _ _ _ ?_).trans ?_; omega)))) (by kernel_rfl) (by rfl) (by simp [Value.oneCell']) ?_; (try simp only [World.setRow_alloc_new]))
          | (go_at_call 33; refine (cwithin x n0 bs.size _ h0 h1 (by omega) (by omega)).mono ?_; rintro e w2 ⟨rfl, hb2⟩; rw [HW.out]; have H2 := Lib.hid hb2; clear hb2))
        go_ret
        obtain ⟨hx, hb⟩ := HH.out
        exact ⟨rfl, H1.out.trans ((hb.trans (below_call ((Below.refl _ _).alloc (Nat.le_refl _) _) H2.out |>.mono hb.size)).mono H1.out.size)⟩
    · exfalso
      have := all_of_upto (f := (withinB · n0 bs.size)) (fun j hj => HA.out j hj (by omega))
      rw [HB.out] at this
      cases this
end Go.Proofs.YtkbilipgidcgeaaGreatDoor

namespace Go.Proofs.YtkbilipgidcgeaaGreatDoor
open Go.RowKit

theorem block_setCells (b : Nat) (t : TypeId) (fr : Nat × Nat) : ∀ (vs l : List Value) (o : Nat) (w : World), o + vs.length ≤ l.length → w.heap[b]? = some (.cells l.toArray t fr) →
    (w.setCells b o vs).heap[b]? = some (.cells (l.take o ++ vs ++ l.drop (o + vs.length)).toArray t fr)
  | [], l, o, w, _, h => by simpa [World.setCells] using h
  | v :: r, l, o, w, hl, h => by
    simp only [List.length_cons] at hl
    have ih := block_setCells b t fr r (l.set o v) (o + 1) (w.setCell ⟨b, o, none⟩ v) (by simp; omega) (block_set h o v)
    rw [World.setCells, ih]
    congr 3
    rw [List.take_set, List.drop_set, if_pos (by omega), List.length_cons, show o + 1 + r.length = o + (r.length + 1) by omega]
    have : (l.take (o + 1)).set o v = l.take o ++ [v] := by
      have hlt : (l.take o).length = o := by rw [List.length_take]; omega
      rw [List.take_succ_eq_append_getElem (by omega), List.set_append_right _ _ (by omega), hlt, Nat.sub_self]
      rfl
    rw [this]
    simp

theorem run_copy_blk {P : Program} (w : World) (dT sT ty elem : TypeId) (b o dLen dCap n N : Nat) (s : ByteArray) (l : List Value) (t : TypeId)
    (hu : P.underlying dT = some (.slice elem)) (hs : (P.info? elem).map (·.size) = some 1) (hg : w.heap[b]? = some (.cells l.toArray t (N, N + 1))) (hn : n = Nat.min s.size dLen) (hfit : o + n ≤ l.length) (hN : o + n ≤ N) :
    (Builtin.copy_ #[dT, sT] ty #[.slice (some ⟨b, o, none⟩) dLen dCap, .string s]).run P w = .ok (goInt n) (w.setCells b o (byteCells (s.data.toList.take n))) := by
  have hlen : (byteCells (s.data.toList.take n)).length = n := by
    rw [byteCells_length, List.length_take]
    have : s.data.toList.length = s.size := by rw [Array.length_toList]; rfl
    have h2 : n ≤ s.size := by rw [hn]; exact Nat.min_le_left _ _
    omega
  have hst := run_storeCells_cells (P := P) b o (byteCells (s.data.toList.take n)) 0 w
    (fun j hj => by rw [hlen] at hj; rw [cell_l hg (o + 0 + j) (List.getElem?_eq_getElem (by omega))]; rfl)
    (fun j hj => by rw [hlen] at hj; exact free_marked hg _ (by omega)) (by intro u hu; exact byteCells_one' _ u hu)
  cases hq : P.info? elem with
  | none => simp [hq] at hs
  | some i =>
    have hi : i.size = 1 := by simpa [hq] using hs
    have htk : List.take n (List.map (fun b : UInt8 => Value.int IntKind.u8 (b.toNat : Int)) s.data.toList) = byteCells (s.data.toList.take n) := by rw [← List.map_take]; rfl
    simp only [Nat.add_zero] at hst
    simp [Builtin.copy_, run_underlying hu, Builtin.lenOf, Builtin.firstCells, sizeOf, typeInfo, hq, ← hn, htk, hst]

theorem PcsAt.only {S : Nat → Prop} {w w' : World} {g o : Nat} {l : List Pc} (h : PcsAt w g o l) (ho : Only S w w') (hs : ¬ S g) : PcsAt w' g o l :=
  ⟨fun j v hv => (ho.cell (World.block_lt_of_cell? w _ (h.at_ j v hv)) hs).trans (h.at_ j v hv)⟩
end Go.Proofs.YtkbilipgidcgeaaGreatDoor

namespace Go.Proofs.YtkbilipgidcgeaaGreatDoor
open Go.RowKit

theorem below_drewN (w : World) (n : Nat) : Below w.heap.size w (w.drewN n) := ⟨rfl, rfl, rfl, Nat.le_refl _, fun _ _ => rfl⟩
theorem Only.drewN {S : Nat → Prop} {w w1 : World} (h : Only S w w1) (n : Nat) : Only S w (w1.drewN n) := ⟨h.os, h.tape, h.output, h.size, h.block⟩

/-- The bytes with the pieces. -/
def pieceL (was : List UInt8) (b : List UInt8) (x : Pc) : List UInt8 := putL b x.t.toNat ((was.drop x.f.toNat).take x.s.toNat)
def applyL (was : List UInt8) (pcs : List Pc) (b : List UInt8) : List UInt8 := pcs.foldl (pieceL was) b

theorem within_facts {x : Pc} {old new : Int} (h : withinB x old new = true) : 0 ≤ x.f ∧ 0 ≤ x.s ∧ 0 ≤ x.t ∧ x.s ≤ old ∧ x.f ≤ old - x.s ∧ x.s ≤ new ∧ x.t ≤ new - x.s := by simpa [withinB] using h

theorem piece_length {was b : List UInt8} {x : Pc} {n0 : Int} (hw : was.length = n0.toNat) (h : withinB x n0 b.length = true) : ((was.drop x.f.toNat).take x.s.toNat).length = x.s.toNat ∧ (pieceL was b x).length = b.length := by
  obtain ⟨h0, h1, h2, h3, h4, h5, h6⟩ := within_facts h
  have hl : ((was.drop x.f.toNat).take x.s.toNat).length = x.s.toNat := by rw [List.length_take, List.length_drop, hw]; omega
  exact ⟨hl, putL_length _ _ _ (by rw [hl]; omega)⟩

theorem applyL_length {was : List UInt8} {n0 : Int} (hw : was.length = n0.toNat) : ∀ (pcs : List Pc) (b : List UInt8), pcs.all (withinB · n0 b.length) = true → (applyL was pcs b).length = b.length
  | [], b, _ => rfl
  | x :: r, b, h => by
    simp only [List.all_cons, Bool.and_eq_true] at h
    have h1 := (piece_length hw h.1).2
    have ih := applyL_length hw r (pieceL was b x) (by rw [h1]; exact h.2)
    exact ih.trans h1

theorem applyL_take (was : List UInt8) (pcs : List Pc) (b : List UInt8) (j : Nat) (h : j < pcs.length) : applyL was (pcs.take (j + 1)) b = pieceL was (applyL was (pcs.take j) b) pcs[j] := by
  unfold applyL
  rw [List.take_succ_eq_append_getElem h, List.foldl_append]
  rfl

theorem all_take {l : List Pc} {f : Pc → Bool} (h : l.all f = true) (k : Nat) : (l.take k).all f = true := by
  rw [List.all_eq_true] at *
  exact fun x hx => h x (List.mem_of_mem_take hx)

theorem piece_put {l : List Value} {prev vs : List UInt8} {o n : Nat} (h : l.take n = byteCells prev) (hp : prev.length = n) (hfit : o + vs.length ≤ n) (hn : n ≤ l.length) :
    (l.take o ++ byteCells vs ++ l.drop (o + vs.length)).take n = byteCells (putL prev o vs) := by
  have e : byteCells (putL prev o vs) = (byteCells prev).take o ++ byteCells vs ++ (byteCells prev).drop (o + vs.length) := by
    simp [putL, byteCells, List.map_take, List.map_drop]
  rw [e, ← h]
  have hv : (byteCells vs).length = vs.length := byteCells_length vs
  have h1 : (l.take o).length = o := by rw [List.length_take]; omega
  rw [List.take_append, List.take_take, List.take_of_length_le (i := n) (by rw [List.length_append, h1, hv]; exact hfit)]
  congr 1
  · rw [Nat.min_eq_left (by omega)]
  · rw [List.length_append, h1, hv, List.drop_take]

theorem extract_take (was : List UInt8) (f s : Nat) (h : f + s ≤ was.length) : ((⟨was.toArray⟩ : ByteArray).extract f (⟨was.toArray⟩ : ByteArray).size).data.toList.take s = (was.drop f).take s := by
  have hs : (⟨was.toArray⟩ : ByteArray).size = was.length := by simp [ByteArray.size]
  rw [hs]
  simp only [ByteArray.data_extract, Array.toList_extract, List.extract_eq_take_drop]
  rw [List.take_take, Nat.min_eq_left (by omega)]
end Go.Proofs.YtkbilipgidcgeaaGreatDoor
