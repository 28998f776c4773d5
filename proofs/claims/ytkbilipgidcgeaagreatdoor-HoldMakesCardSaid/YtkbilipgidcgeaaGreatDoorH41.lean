/- hold: stratum.keeps. hold.Held: its closures. hold.Held: its state. hold.Held: hold(l, is), is = Held$3. hold.Held: hold(l, is), is = Held$4; no holder. hold.Held: hold(all, is) at the row of all strata, or at nil. hold.Held: its main loop's words. hold.Held: its main loop's laws. -/
import Derived.Test.YtkbilipgidcgeaaGreatDoorH40
set_option linter.unusedVariables false
set_option linter.unusedSimpArgs false
namespace Go.Proofs.YtkbilipgidcgeaaGreatDoor.Tiny
open Go.RowKit Go.ChangeMaps Go.Maps
attribute [local go_sem] ext_cell ext_frozen
attribute [local irreducible] labCells modC threadC

set_option maxRecDepth 100000 in
set_option maxHeartbeats 4000000 in
theorem skeeps (B : ByteArray) (p i : Nat) (l : List Str) (ps : List Part) (x : VN) (w : World) (hV : ViewAt B w x p l ps) (hi : i < l.length) :
    Calls Tryz.prog 399 #[.agg #[.pointer (some ⟨x.v, 0, none⟩), .int .i64 i]] w fun e w' => e = .returned (.slice none 0 0) ∧ Below w.heap.size w w' := by
  obtain ⟨sg, sc, hsv, hrow⟩ := str_row hV.strs (by omega)
  have hhd := hV.head
  rw [hsv] at hhd
  have HH := Lib.hid (And.intro hrow hV)
  have hil : (i : Int) < (l.length : Int) := by omega
  obtain ⟨mo, hmo⟩ : ∃ mo, mo = l[i].mod := ⟨_, rfl⟩
  have HM := Lib.hid hmo
  clear hV hrow hmo
  go_enter Tryz.func399, Tryz.ntmps399
  go_upto_region 1 with fail
  refine name_world fun W hW => ?_
  have wB : Below w.heap.size w W := by rw [← hW]; go_grown
  have ks : W.heap[w.heap.size]? = some (.cells [.pointer (some ⟨x.v, 0, none⟩), .int .i64 i].toArray 175 (0, 0)) := by rw [← hW]; exact heap_alloc_new w _
  have kh := (wB.block _ (lt_of_block hhd)).trans hhd
  have HW := Lib.hid (And.intro wB (ownsRow_below' HH.out.1 wB))
  clear hW wB hhd
  refine wp_region_facts [.val (.pointer (some ⟨w.heap.size, 0, none⟩)), .val (.pointer (some ⟨x.v, 0, none⟩)), .val (.pointer (some ⟨x.v, 0, none⟩)), .val (.pointer (some ⟨x.v, 2, none⟩)), .val (.slice (some ⟨sg, 0, none⟩) l.length sc), .val (.pointer (some ⟨w.heap.size, 1, none⟩)), .val (.int .i64 (i : Int)), .val (.pointer (some ⟨sg, i * 7, none⟩)), .val (.pointer (some ⟨sg, i * 7, none⟩)), .val (.int .i64 mo), .val (.int .i64 mo)] (by kernel_rfl) (by kernel_rfl) ?_ ?_
  · simp only [stepsAll, List.take, List.length]
    refine ⟨?_, ?_, ?_, ?_, ?_, ?_, ?_, ?_, ?_, ?_, ?_, ?_⟩
    all_goals first | trivial | (intro a wz hb hf hd)
    all_goals have hf1 : a.tmps[(1 : Nat)]?.getD undef = .pointer (some ⟨w.heap.size, 0, none⟩) := (hf 1 (by decide +kernel)).trans rfl
    · exact grow_value (v := .pointer (some ⟨w.heap.size, 0, none⟩)) (by simp [execOp, hf1, go_sem]) (Below.refl _ _) ⟨rfl, fun h => by cases h⟩
    · have h4 : a.tmps[(4 : Nat)]?.getD undef = .pointer (some ⟨w.heap.size, 0, none⟩) := hd 0 (by simp) (by kernel_rfl)
      have hc := cell_l ((hb.block _ (lt_of_block ks)).trans ks) 0 (rfl)
      exact grow_value (v := .pointer (some ⟨x.v, 0, none⟩)) (by simp [execOp, h4, hc, go_sem]) (Below.refl _ _) ⟨rfl, fun h => by cases h⟩
    · have h5 : a.tmps[(5 : Nat)]?.getD undef = .pointer (some ⟨x.v, 0, none⟩) := hd 1 (by simp) (by kernel_rfl)
      exact grow_value (v := .pointer (some ⟨x.v, 0, none⟩)) (by simp [execOp, h5, go_sem]) (Below.refl _ _) ⟨rfl, fun h => by cases h⟩
    · have h6 : a.tmps[(6 : Nat)]?.getD undef = .pointer (some ⟨x.v, 0, none⟩) := hd 2 (by simp) (by kernel_rfl)
      exact grow_value (v := .pointer (some ⟨x.v, 2, none⟩)) (by simp [execOp, h6, go_sem]) (Below.refl _ _) ⟨rfl, fun h => by cases h⟩
    · have h7 : a.tmps[(7 : Nat)]?.getD undef = .pointer (some ⟨x.v, 2, none⟩) := hd 3 (by simp) (by kernel_rfl)
      have hc := cell_l ((hb.block _ (lt_of_block kh)).trans kh) 2 (rfl)
      exact grow_value (v := .slice (some ⟨sg, 0, none⟩) l.length sc) (by simp [execOp, h7, hc, go_sem]) (Below.refl _ _) ⟨rfl, fun h => by cases h⟩
    · exact grow_value (v := .pointer (some ⟨w.heap.size, 1, none⟩)) (by simp [execOp, hf1, go_sem]) (Below.refl _ _) ⟨rfl, fun h => by cases h⟩
    · have h9 : a.tmps[(9 : Nat)]?.getD undef = .pointer (some ⟨w.heap.size, 1, none⟩) := hd 5 (by simp) (by kernel_rfl)
      have hc := cell_l ((hb.block _ (lt_of_block ks)).trans ks) 1 (rfl)
      exact grow_value (v := .int .i64 (i : Int)) (by simp [execOp, h9, hc, go_sem]) (Below.refl _ _) ⟨rfl, fun h => by cases h⟩
    · have h8 : a.tmps[(8 : Nat)]?.getD undef = .slice (some ⟨sg, 0, none⟩) l.length sc := hd 4 (by simp) (by kernel_rfl)
      have h10 : a.tmps[(10 : Nat)]?.getD undef = .int .i64 (i : Int) := hd 6 (by simp) (by kernel_rfl)
      exact grow_value (v := .pointer (some ⟨sg, i * 7, none⟩)) (by simp [execOp, h8, h10, hil, hi, go_sem]) (Below.refl _ _) ⟨rfl, fun h => by cases h⟩
    · have h11 : a.tmps[(11 : Nat)]?.getD undef = .pointer (some ⟨sg, i * 7, none⟩) := hd 7 (by simp) (by kernel_rfl)
      exact grow_value (v := .pointer (some ⟨sg, i * 7, none⟩)) (by simp [execOp, h11, go_sem]) (Below.refl _ _) ⟨rfl, fun h => by cases h⟩
    · have h12 : a.tmps[(12 : Nat)]?.getD undef = .pointer (some ⟨sg, i * 7, none⟩) := hd 8 (by simp) (by kernel_rfl)
      have hc : wz.cell? ⟨sg, i * 7, none⟩ = some (.int .i64 mo) := by rw [HM.out]; exact str_range (ownsRow_below' HW.out.2 hb) i hi 0 _ rfl
      exact grow_value (v := .int .i64 mo) (by simp [execOp, h12, hc, go_sem]) (Below.refl _ _) ⟨rfl, fun h => by cases h⟩
    · have h13 : a.tmps[(13 : Nat)]?.getD undef = .int .i64 mo := hd 9 (by simp) (by kernel_rfl)
      exact grow_value (v := .int .i64 mo) (by simp [execOp, h13, go_sem]) (Below.refl _ _) ⟨rfl, fun h => by cases h⟩
  · intro fv w2 hb2 hs hn hne
    have g4 : fv 4 = .pointer (some ⟨w.heap.size, 0, none⟩) := hs 0 (by simp)
    have g5 : fv 5 = .pointer (some ⟨x.v, 0, none⟩) := hs 1 (by simp)
    have g6 : fv 6 = .pointer (some ⟨x.v, 0, none⟩) := hs 2 (by simp)
    have g7 : fv 7 = .pointer (some ⟨x.v, 2, none⟩) := hs 3 (by simp)
    have g8 : fv 8 = .slice (some ⟨sg, 0, none⟩) l.length sc := hs 4 (by simp)
    have g9 : fv 9 = .pointer (some ⟨w.heap.size, 1, none⟩) := hs 5 (by simp)
    have g10 : fv 10 = .int .i64 (i : Int) := hs 6 (by simp)
    have g11 : fv 11 = .pointer (some ⟨sg, i * 7, none⟩) := hs 7 (by simp)
    have g12 : fv 12 = .pointer (some ⟨sg, i * 7, none⟩) := hs 8 (by simp)
    have g13 : fv 13 = .int .i64 mo := hs 9 (by simp)
    have g3 : fv 3 = .int .i64 mo := hs 10 (by simp)
    rw [show (List.range (List.length _)).map (dstOf _) = [4, 5, 6, 7, 8, 9, 10, 11, 12, 13, 3] from by kernel_rfl]
    simp only [actOf, List.foldl, Act.put, List.drop, List.length, g4, g5, g6, g7, g8, g9, g10, g11, g12, g13, g3, List.setIfInBounds_toArray, List.set_cons_zero, List.set_cons_succ]
    clear hs hn hne g4 g5 g6 g7 g8 g9 g10 g11 g12 g13 g3
    have H2 := Lib.hid (And.intro (HH.out.2.below (HW.out.1.trans (hb2.mono HW.out.1.size))) (HW.out.1.trans (hb2.mono HW.out.1.size)))
    have c0 := cell_l ((hb2.block _ (lt_of_block ks)).trans ks) 0 rfl
    clear ks kh hb2
    go_wp2_with fail
    go_at_call 83
    refine (vclosed B x p l ps mo w2 H2.out.1).mono ?_
    rintro e w3 ⟨rfl, rfl⟩
    go_wp2
    go_ret
    exact ⟨rfl, H2.out.2⟩
end Go.Proofs.YtkbilipgidcgeaaGreatDoor.Tiny

namespace Go.Proofs.YtkbilipgidcgeaaGreatDoor.Tiny
open Go.RowKit Go.ChangeMaps Go.Maps
attribute [local go_sem] ext_cell ext_frozen
attribute [local irreducible] labCells modC threadC

/-- The holder of a stratum. -/
def hol (v i : Nat) : Value := .iface 175 (.agg #[.pointer (some ⟨v, 0, none⟩), .int .i64 i])

theorem assert_str (v : Value) (w : World) : (Instr.typeAssert (.iface 175 v) 172 175 true).run Tryz.prog w = .ok (.tuple #[v, .bool true]) w := by kernel_rfl

set_option maxRecDepth 100000 in
set_option maxHeartbeats 4000000 in
theorem held1 (v i b1 b2 gs n cap : Nat) (w : World) (h1 : w.cell? ⟨b1, 0, none⟩ = some (.slice (some ⟨gs, 0, none⟩) n cap)) (hi : i < n) (l1 : b1 < w.heap.size) :
    Calls Tryz.prog 81 #[hol v i, .pointer (some ⟨b1, 0, none⟩), .pointer (some ⟨b2, 0, none⟩)] w fun e w' => e = .returned (.pointer (some ⟨gs, i, none⟩)) ∧ Below w.heap.size w w' := by
  have hil : (i : Int) < (n : Int) := by omega
  have hta := assert_str
  unfold hol
  go_enter Tryz.func81, Tryz.ntmps81
  go_wp2
  go_ret
  exact ⟨rfl, by go_grown⟩

set_option maxRecDepth 100000 in
set_option maxHeartbeats 4000000 in
theorem held3 (B : ByteArray) (x : VN) (p b nn i q : Nat) (l : List Str) (ps : List Part) (S : Int → Prop) (r : Bool) (w : World) (hV : ViewAt B w x p l ps) (hS : SetAt w b nn S) (hi : i < l.length) (hq : w.cell? ⟨q, 0, none⟩ = some (.map (some b)))
    (h0 : 0 ≤ l[i].at_) (h1 : l[i].at_ ≤ 1000000) (h2 : 0 ≤ l[i].size) (h3 : l[i].size ≤ 1000000) (hr : r = true ↔ ∃ z, S z ∧ l[i].at_ ≤ z ∧ z - l[i].at_ ≤ l[i].size) :
    Calls Tryz.prog 86 #[hol x.v i, .pointer (some ⟨q, 0, none⟩)] w fun e w' => e = .returned (.bool r) ∧ Below w.heap.size w w' := by
  have HH := Lib.hid (And.intro hV (And.intro hS hr))
  clear hV hS hr
  unfold hol
  go_enter Tryz.func86, Tryz.ntmps86
  go_wp2_with fail
  go_at_call 400
  refine (smet B x p b nn i l ps S r w HH.out.1 HH.out.2.1 hi h0 h1 h2 h3 HH.out.2.2).mono ?_
  rintro e w1 ⟨rfl, hb1⟩
  have H1 := Lib.hid hb1
  clear hb1
  go_wp2
  go_ret
  exact ⟨rfl, H1.out⟩

set_option maxRecDepth 100000 in
set_option maxHeartbeats 4000000 in
theorem held4 (B : ByteArray) (x : VN) (p b nn i q : Nat) (l : List Str) (ps : List Part) (S : Int → Prop) (r : Bool) (w : World) (hV : ViewAt B w x p l ps) (hS : SetAt w b nn S) (hi : i < l.length) (hq : w.cell? ⟨q, 0, none⟩ = some (.map (some b)))
    (h0 : 0 ≤ l[i].at_) (h1 : l[i].at_ ≤ 1000000) (h2 : 0 ≤ l[i].size) (h3 : l[i].size ≤ 1000000) (hr : r = true ↔ ∃ z, S z ∧ l[i].at_ ≤ z ∧ z - l[i].at_ ≤ l[i].size) :
    Calls Tryz.prog 87 #[hol x.v i, .pointer (some ⟨q, 0, none⟩)] w fun e w' => e = .returned (.bool r) ∧ Below w.heap.size w w' := by
  have HH := Lib.hid (And.intro hV (And.intro hS hr))
  clear hV hS hr
  unfold hol
  go_enter Tryz.func87, Tryz.ntmps87
  go_wp2_with fail
  go_at_call 400
  refine (smet B x p b nn i l ps S r w HH.out.1 HH.out.2.1 hi h0 h1 h2 h3 HH.out.2.2).mono ?_
  rintro e w1 ⟨rfl, hb1⟩
  have H1 := Lib.hid hb1
  clear hb1
  go_wp2
  go_ret
  exact ⟨rfl, H1.out⟩

set_option maxRecDepth 100000 in
theorem held5 (h : Value) (w : World) : Calls Tryz.prog 88 #[h] w fun e w' => e = .returned (.bool true) ∧ w' = w := by
  go_enter Tryz.func88, Tryz.ntmps88
  go_wp2
  go_ret
  exact ⟨rfl, rfl⟩
end Go.Proofs.YtkbilipgidcgeaaGreatDoor.Tiny

namespace Go.Proofs.YtkbilipgidcgeaaGreatDoor.Tiny
open Go.RowKit Go.ChangeMaps Go.Maps
attribute [local go_sem] ext_cell ext_frozen
attribute [local irreducible] labCells modC threadC

/-- One round of marking. -/
def mark1 (isf : Nat → Bool) (st : List Bool × List Nat) (i : Nat) : List Bool × List Nat := if (!(st.1[i]?.getD true)) && isf i then (st.1.set i true, st.2 ++ [i]) else st
def markS (isf : Nat → Bool) (hs : List Nat) (st : List Bool × List Nat) : List Bool × List Nat := hs.foldl (mark1 isf) st
theorem mark_len (isf : Nat → Bool) (st : List Bool × List Nat) (i : Nat) : (mark1 isf st i).1.length = st.1.length := by
  unfold mark1; split <;> simp
theorem marks_len (isf : Nat → Bool) : ∀ (hs : List Nat) (st : List Bool × List Nat), (markS isf hs st).1.length = st.1.length
  | [], st => rfl
  | i :: hs, st => (marks_len isf hs (mark1 isf st i)).trans (mark_len isf st i)
theorem marks_take (isf : Nat → Bool) (hs : List Nat) (st : List Bool × List Nat) (k : Nat) (hk : k < hs.length) : markS isf (hs.take (k + 1)) st = mark1 isf (markS isf (hs.take k) st) hs[k] := by
  unfold markS
  rw [List.take_succ_eq_append_getElem hk, List.foldl_append]
  rfl

/-- The memory of Held: v: the view; bm, bw: the boxes of mark and work; b1, b2: the boxes of the results; gs: the row of the strata's bools. -/
structure HState (W : World) (v bm bw b1 b2 gs base : Nat) (st : List Bool × List Nat) : Prop where
  mark : W.heap[bm]? = some (.cells #[.func (.func 81) #[] #[.pointer (some ⟨b1, 0, none⟩), .pointer (some ⟨b2, 0, none⟩)]] 177 (0, 0))
  box1 : W.heap[b1]? = some (.cells #[.slice (some ⟨gs, 0, none⟩) st.1.length st.1.length] 117 (0, 0))
  bools : W.heap[gs]? = some (.cells (st.1.map Value.bool).toArray 4 (0, 0))
  work : ∃ wv, W.heap[bw]? = some (.cells #[wv] 178 (0, 0)) ∧ W.ownsRow base 172 1 wv st.2.length (st.2.map (hol v))
  gsb : gs < base
  bwb : bw < base
  b1b : b1 < base
  bmb : bm < base
  base : base ≤ W.heap.size

theorem HState.below {W W' : World} {v bm bw b1 b2 gs base : Nat} {st : List Bool × List Nat} (h : HState W v bm bw b1 b2 gs base st) (hb : Below W.heap.size W W') : HState W' v bm bw b1 b2 gs base st := by
  obtain ⟨wv, h1, h2⟩ := h.work
  exact ⟨(hb.block _ (lt_of_block h.mark)).trans h.mark, (hb.block _ (lt_of_block h.box1)).trans h.box1, (hb.block _ (lt_of_block h.bools)).trans h.bools, ⟨wv, (hb.block _ (lt_of_block h1)).trans h1, ownsRow_below' h2 hb⟩, h.gsb, h.bwb, h.b1b, h.bmb, Nat.le_trans h.base hb.size⟩

/-- What such a step may turn. -/
def Eff (gs bw base : Nat) (W W' : World) : Prop := Only (fun k => k = gs ∨ k = bw ∨ (base ≤ k ∧ ∃ cs fr, W.heap[k]? = some (Obj.cells cs 172 fr))) W W'
theorem Eff.refl (gs bw base : Nat) (W : World) : Eff gs bw base W W := Only.refl _ _
theorem Eff.below {gs bw base : Nat} {W W' : World} (h : Below W.heap.size W W') : Eff gs bw base W W' := Only.of_below h
theorem Eff.trans {gs bw base : Nat} {W W1 W2 : World} (h : Eff gs bw base W W1) (k : Eff gs bw base W1 W2) : Eff gs bw base W W2 := by
  refine Only.then h k (fun b hb hT => ?_)
  rcases hT with h1 | h1 | ⟨h1, h2⟩
  · exact .inl h1
  · exact .inr (.inl h1)
  · by_cases hx : (b = gs ∨ b = bw ∨ (base ≤ b ∧ ∃ cs fr, W.heap[b]? = some (Obj.cells cs 172 fr)))
    · exact hx
    · rw [h.block b hb hx] at h2
      exact absurd (.inr (.inr ⟨h1, h2⟩)) hx

theorem bool_cell {W : World} {gs : Nat} {r : List Bool} {t : TypeId} {fr : Nat × Nat} (h : W.heap[gs]? = some (.cells (r.map Value.bool).toArray t fr)) (i : Nat) (hi : i < r.length) : W.cell? ⟨gs, i, none⟩ = some (.bool (r[i]?.getD true)) := by
  refine cell_l h i ?_
  rw [List.getElem?_map, List.getElem?_eq_getElem hi]
  rfl
theorem hol_cells (v i : Nat) : (hol v i).cells = #[hol v i] := rfl
theorem own_cells {w : World} {base size n : Nat} {e : TypeId} {v : Value} {xs : List Value} (h : w.ownsRow base e size v n xs) {g : Nat} (hg : v.ownBlock = some g) : ∃ cs fr, w.heap[g]? = some (Obj.cells cs e fr) := by
  rcases h.2 with ⟨e, _⟩ | ⟨g', cap, cur, e, _, hh, _⟩
  · rw [e] at hg; cases hg
  · rw [e] at hg
    have e' : g' = g := Option.some.inj hg
    subst e'
    exact ⟨_, _, hh⟩
theorem infoh : (Tryz.prog.info? 172).map (fun i => (i.zero, i.size, i.bytes)) = some (some .nilIface, 1, 16) := by kernel_rfl
end Go.Proofs.YtkbilipgidcgeaaGreatDoor.Tiny

namespace Go.Proofs.YtkbilipgidcgeaaGreatDoor.Tiny
open Go.RowKit Go.ChangeMaps Go.Maps
attribute [local go_sem] ext_cell ext_frozen
attribute [local irreducible] labCells modC threadC

theorem row_some {w : World} {base n size : Nat} {e : TypeId} {v : Value} {xs : List Value} (h : w.ownsRow base e size v n xs) (hn : 0 < n) : ∃ g c, v = .slice (some ⟨g, 0, none⟩) n c := by
  rcases h.2 with ⟨_, h0⟩ | ⟨g, cap, cur, h1, _⟩
  · omega
  · exact ⟨g, cap, h1⟩

set_option maxRecDepth 100000 in
set_option maxHeartbeats 4000000 in
theorem hold2_3 (B : ByteArray) (x : VN) (p b nn q bm bw b1 b2 gs base ga ca : Nat) (l : List Str) (ps : List Part) (S : Int → Prop) (isf : Nat → Bool) (hs : List Nat) (st : List Bool × List Nat) (w : World) (hV : ViewAt B w x p l ps) (hS : SetAt w b nn S) (hq : w.heap[q]? = some (.cells #[.map (some b)] 127 (0, 0)))
    (hH : HState w x.v bm bw b1 b2 gs base st) (hall : w.ownsRow 0 172 1 (.slice (some ⟨ga, 0, none⟩) hs.length ca) hs.length (hs.map (hol x.v))) (hga : ga < base) (hin : ∀ i ∈ hs, i < l.length) (hn : st.1.length = l.length)
    (hpos : ∀ i (hi : i < l.length), 0 ≤ l[i].at_ ∧ l[i].at_ ≤ 1000000 ∧ 0 ≤ l[i].size ∧ l[i].size ≤ 1000000) (his : ∀ i (hi : i < l.length), isf i = true ↔ ∃ z, S z ∧ l[i].at_ ≤ z ∧ z - l[i].at_ ≤ l[i].size)
    (hkeep : ∀ W, Eff gs bw base w W → ViewAt B W x p l ps ∧ SetAt W b nn S ∧ W.heap[q]? = some (.cells #[.map (some b)] 127 (0, 0)) ∧ W.ownsRow 0 172 1 (.slice (some ⟨ga, 0, none⟩) hs.length ca) hs.length (hs.map (hol x.v))) (hlen : st.2.length + hs.length ≤ 1000) (hl1 : hs.length ≤ 1000) (hd : gs ≠ bw ∧ b1 ≠ gs ∧ b1 ≠ bw ∧ bm ≠ gs ∧ bm ≠ bw) :
    Calls Tryz.prog 84 #[.slice (some ⟨ga, 0, none⟩) hs.length ca, .func (.func 86) #[] #[.pointer (some ⟨q, 0, none⟩)], .pointer (some ⟨bm, 0, none⟩), .pointer (some ⟨bw, 0, none⟩)] w fun e w' => e = .returned (.tuple #[]) ∧ HState w' x.v bm bw b1 b2 gs base (markS isf hs st) ∧ Eff gs bw base w w' := by
  obtain ⟨i0, hi0, hz0, hz1, hz2⟩ := info_parts infoh
  have HH := Lib.hid (And.intro hH (And.intro hin (And.intro hn (And.intro hpos (And.intro his hkeep)))))
  clear hV hS hq hall hH hin hpos his hkeep
  go_enter Tryz.func84, Tryz.ntmps84
  go_wp2_with fail
  go_loopw [7, 8, 11] (fun _ _ i wr => ∃ k : Nat, k ≤ hs.length ∧ i = .int .i64 k ∧ HState wr x.v bm bw b1 b2 gs base (markS isf (hs.take k) st) ∧ (markS isf (hs.take k) st).2.length ≤ st.2.length + k ∧ Eff gs bw base w wr) (fun _ _ i _ => hs.length - (vI i).toNat)
  case atStart => exact ⟨0, Nat.zero_le _, rfl, HH.out.1, Nat.le_refl _, Eff.refl _ _ _ _⟩
  case round =>
    obtain ⟨k, hk, rfl, hst, hwl, hef⟩ := hrel
    by_cases hlt : k < hs.length
    · obtain ⟨kV, kS, kq, kall⟩ := HH.out.2.2.2.2.2 _ hef
      obtain ⟨i, hi⟩ : ∃ i, i = hs[k] := ⟨_, rfl⟩
      have hil : i < l.length := by rw [hi]; exact HH.out.2.1 _ (List.getElem_mem hlt)
      have hc := (row_cell kall k (by rw [List.getElem?_map, List.getElem?_eq_getElem hlt, ← hi]; rfl)).1
      have cm := cell_l hst.mark 0 rfl
      obtain ⟨s1, hs1⟩ : ∃ s1, s1 = markS isf (hs.take k) st := ⟨_, rfl⟩
      have hnx : markS isf (hs.take (k + 1)) st = mark1 isf s1 i := by rw [marks_take isf hs st k hlt, hs1, hi]
      rw [← hs1] at hst hwl
      have hls : s1.1.length = l.length := by rw [hs1, marks_len]; exact HH.out.2.2.1
      have HK := Lib.hid (And.intro kV (And.intro kS (And.intro kq (And.intro hst (And.intro hef hnx)))))
      clear kV kS kq kall hst hef hs1 hnx hi
      go_wp2_with fail
      go_at_call 81
      refine (held1 x.v i b1 b2 gs s1.1.length s1.1.length wr (cell_l HK.out.2.2.2.1.box1 0 rfl) (by omega) (lt_of_block HK.out.2.2.2.1.box1)).mono ?_
      rintro e w1 ⟨rfl, hb1⟩
      have s2 := HK.out.2.2.2.1.below hb1
      have cb := bool_cell s2.bools i (by omega)
      obtain ⟨cur, hcur⟩ : ∃ cur, cur = s1.1[i]?.getD true := ⟨_, rfl⟩
      rw [← hcur] at cb
      have H1 := Lib.hid (And.intro hb1 (And.intro s2 hcur))
      clear hb1 s2 hcur cm hc
      have ef1 : Eff gs bw base w w1 := HK.out.2.2.2.2.1.trans (Eff.below H1.out.1)
      cases cur with
      | true =>
        have he : markS isf (hs.take (k + 1)) st = s1 := by rw [HK.out.2.2.2.2.2]; unfold mark1; rw [← H1.out.2.2]; rfl
        have HE := Lib.hid (And.intro he ef1)
        clear he ef1
        go_wp2
        go_roundw
        case rel => exact ⟨k + 1, by omega, by go_num, by rw [HE.out.1]; exact H1.out.2.1, by rw [HE.out.1]; omega, HE.out.2⟩
        case measure => simp [vI]; omega
      | false =>
        obtain ⟨p1, p2, p3, p4⟩ := HH.out.2.2.2.1 i hil
        have cw := H1.out.2.1
        have HE := Lib.hid ef1
        clear ef1 cw
        go_wp2_with fail
        go_at_call 86
        refine (held3 B x p b nn i q l ps S (isf i) w1 (HK.out.1.below H1.out.1) (HK.out.2.1.below H1.out.1) hil (cell_l ((H1.out.1.block _ (lt_of_block HK.out.2.2.1)).trans HK.out.2.2.1) 0 rfl) p1 p2 p3 p4 (HH.out.2.2.2.2.1 i hil)).mono ?_
        rintro e w2 ⟨rfl, hb2⟩
        have s3 := H1.out.2.1.below hb2
        have cb2 := bool_cell s3.bools i (by omega)
        rw [← H1.out.2.2] at cb2
        have fb := free_in s3.bools i
        obtain ⟨wv, hw1, hw2⟩ := s3.work
        have cw := cell_l hw1 0 rfl
        have fw := free_in hw1 0
        obtain ⟨r, hr⟩ : ∃ r, r = isf i := ⟨_, rfl⟩
        rw [← hr]
        have H2 := Lib.hid (And.intro s3 (And.intro (HE.out.trans (Eff.below hb2)) (And.intro hr (And.intro hw1 hw2))))
        clear s3 hb2 hr hw1 hw2 cb
        cases r with
        | false =>
          have he : markS isf (hs.take (k + 1)) st = s1 := by rw [HK.out.2.2.2.2.2]; unfold mark1; rw [← H2.out.2.2.1, Bool.and_false]; rfl
          have HQ := Lib.hid he
          clear he
          go_wp2
          go_roundw
          case rel => exact ⟨k + 1, by omega, by go_num, by rw [HQ.out]; exact H2.out.1, by rw [HQ.out]; omega, H2.out.2.1⟩
          case measure => simp [vI]; omega
        | true =>
          go_upto_region 6 with fail
          refine name_world fun w3 hw3 => ?_
          have o3 : Only (· = gs) w2 w3 := by rw [← hw3]; exact (Only.refl _ _).setCell ⟨gs, i, none⟩ (.bool true) (.inl rfl)
          have k3 : w3.heap[gs]? = some (.cells ((s1.1.set i true).map Value.bool).toArray 4 (0, 0)) := by
            rw [← hw3]
            have := block_set H2.out.1.bools i (.bool true)
            rw [this]
            simp [List.map_set]
          have e3 : Eff gs bw base w w3 := H2.out.2.1.trans (o3.mono (fun k _ h => .inl h))
          have k4 := o3.kept H2.out.2.2.2.1 (show ¬ bw = gs by omega)
          have c3 := cell_l k4 0 rfl
          have hlow : ∀ g, wv.ownBlock = some g → base ≤ g ∧ g < w2.heap.size := fun g h => H2.out.2.2.2.2.lt g h
          have hgb := H2.out.1.gsb
          have r3 := H2.out.2.2.2.2.kept (grown_only o3) (by
            cases hx : wv.ownBlock with
            | none => exact .inl rfl
            | some g => exact .inr (fun e => by have := hlow g hx; have := Option.some.inj e; omega))
          have H3 := Lib.hid (And.intro o3 (And.intro k3 (And.intro e3 (And.intro r3 (And.intro hlow k4)))))
          clear hw3 o3 k3 e3 r3 hlow cw fw cb2 fb k4
          have hbwb := H2.out.1.bwb
          have l3 := H3.out.1.size
          unfold hol
          have hbase := H2.out.1.base
          go_wp2_with (first
            | (at_builtin; refine wpList_append_own_at _ rfl _ _ 178 rfl base 172 i0 .nilIface 1 16 Tryz.underlying178 hi0 hz0 hz1 hz2 rfl (by decide) wv _ _ rfl (H3.out.2.2.2.1.alloc _) ⟨w3.heap.size, 0, none⟩ 1 1 [hol x.v i] rfl rfl (cell_one_new _ _ _) (by intro u hu; rw [List.mem_singleton] at hu; rw [hu]; rfl) (by unfold maxLen; omega) (by omega) (by simp; omega) ?_; intro v' w4 hown4 hgrow4 hnil4 hloc4; clear hnil4; obtain ⟨vg, vc, rfl⟩ := row_some hown4 (Nat.succ_pos _); have k5 := (hgrow4.block bw (by simp; have := lt_of_block H3.out.2.2.2.2.2; omega) (fun e => by have := (H3.out.2.2.2.2.1 bw e.symm).1; omega)).trans (block_old H3.out.2.2.2.2.2); have c5 := cell_l k5 0 rfl; have f5 := free_in k5 0; have H4 := Lib.hid (And.intro hown4 (And.intro hgrow4 (And.intro hloc4 k5))); clear hown4 hgrow4 hloc4 k5 c3)
            | fail)
          go_roundw
          case rel =>
            obtain ⟨hown4, hgrow4, hloc4, k5⟩ := H4.out
            obtain ⟨o3, k3, e3, r3, hlow, k4⟩ := H3.out
            have s3 := H2.out.1
            have hm1 : markS isf (hs.take (k + 1)) st = (s1.1.set i true, s1.2 ++ [i]) := by
              rw [HK.out.2.2.2.2.2]; unfold mark1; rw [← H2.out.2.2.1, ← H1.out.2.2]; rfl
            have la : (w3.alloc (.cells #[hol x.v i] 172)).heap.size = w3.heap.size + 1 := by simp
            have o4 : Only (fun k => wv.ownBlock = some k) w3 w4 := ((Only.refl _ w3).alloc _).trans ⟨hgrow4.os, hgrow4.tape, hgrow4.output, hgrow4.size, fun k hk hn => hgrow4.block k hk (fun e => hn e.symm)⟩
            have o5 : Only (· = bw) w4 (w4.setCell ⟨bw, 0, none⟩ (.slice (some ⟨vg, 0, none⟩) (s1.2.length + 1) vc)) := (Only.refl _ _).setCell _ _ (.inl rfl)
            have k6 := block_set k5 0 (.slice (some ⟨vg, 0, none⟩) (s1.2.length + 1) vc)
            obtain ⟨w5, hw5⟩ : ∃ w5, w5 = w4.setCell ⟨bw, 0, none⟩ (.slice (some ⟨vg, 0, none⟩) (s1.2.length + 1) vc) := ⟨_, rfl⟩
            rw [← hw5] at o5 k6 ⊢
            have nown : ∀ g, g < base → ¬ wv.ownBlock = some g := fun g h e => by have := (hlow g e).1; omega
            have go3 : ∀ g o, g < base → g ≠ gs → g ≠ bw → w2.heap[g]? = some o → w5.heap[g]? = some o := fun g o h1 h2 h3 h => o5.kept (o4.kept (o3.kept h h2) (nown g h1)) h3
            have hvg : base ≤ vg := (hown4.lt vg rfl).1
            refine ⟨k + 1, by omega, by go_num, ?_, ?_, ?_⟩
            · rw [hm1]
              refine ⟨go3 _ _ s3.bmb hd.2.2.2.1 hd.2.2.2.2 s3.mark, ?_, o5.kept (o4.kept k3 (nown gs s3.gsb)) hd.1, ⟨_, k6, ?_⟩, s3.gsb, s3.bwb, s3.b1b, s3.bmb, Nat.le_trans s3.base (Nat.le_trans o3.size (Nat.le_trans o4.size o5.size))⟩
              · rw [List.length_set]; exact go3 _ _ s3.b1b hd.2.1 hd.2.2.1 s3.box1
              · have := hown4.kept (grown_only o5) (.inr (fun e => by have : vg = bw := Option.some.inj e; omega))
                rw [List.length_append, List.map_append]
                exact this
            · rw [hm1, List.length_append]; simp; omega
            · exact e3.trans (Only.trans (o4.mono (fun k _ h => .inr (.inr ⟨(hlow k h).1, own_cells r3 h⟩))) (o5.mono (fun k _ h => .inr (.inl h))))
          case measure => simp [vI]; omega
    · obtain rfl : k = hs.length := by omega
      have HK := Lib.hid (And.intro hst hef)
      clear hst hef
      go_wp2
      go_end0
      have h := HK.out
      rw [List.take_length] at h
      exact ⟨rfl, h.1, h.2⟩
end Go.Proofs.YtkbilipgidcgeaaGreatDoor.Tiny

namespace Go.Proofs.YtkbilipgidcgeaaGreatDoor.Tiny
open Go.RowKit Go.ChangeMaps Go.Maps
attribute [local go_sem] ext_cell ext_frozen
attribute [local irreducible] labCells modC threadC

set_option maxRecDepth 100000 in
set_option maxHeartbeats 4000000 in
theorem hold2_4 (B : ByteArray) (x : VN) (p b nn q bm bw b1 b2 gs base ga ca : Nat) (l : List Str) (ps : List Part) (S : Int → Prop) (isf : Nat → Bool) (hs : List Nat) (st : List Bool × List Nat) (w : World) (hV : ViewAt B w x p l ps) (hS : SetAt w b nn S) (hq : w.heap[q]? = some (.cells #[.map (some b)] 127 (0, 0)))
    (hH : HState w x.v bm bw b1 b2 gs base st) (hall : w.ownsRow 0 172 1 (.slice (some ⟨ga, 0, none⟩) hs.length ca) hs.length (hs.map (hol x.v))) (hga : ga < base) (hin : ∀ i ∈ hs, i < l.length) (hn : st.1.length = l.length)
    (hpos : ∀ i (hi : i < l.length), 0 ≤ l[i].at_ ∧ l[i].at_ ≤ 1000000 ∧ 0 ≤ l[i].size ∧ l[i].size ≤ 1000000) (his : ∀ i (hi : i < l.length), isf i = true ↔ ∃ z, S z ∧ l[i].at_ ≤ z ∧ z - l[i].at_ ≤ l[i].size)
    (hkeep : ∀ W, Eff gs bw base w W → ViewAt B W x p l ps ∧ SetAt W b nn S ∧ W.heap[q]? = some (.cells #[.map (some b)] 127 (0, 0)) ∧ W.ownsRow 0 172 1 (.slice (some ⟨ga, 0, none⟩) hs.length ca) hs.length (hs.map (hol x.v))) (hlen : st.2.length + hs.length ≤ 1000) (hl1 : hs.length ≤ 1000) (hd : gs ≠ bw ∧ b1 ≠ gs ∧ b1 ≠ bw ∧ bm ≠ gs ∧ bm ≠ bw) :
    Calls Tryz.prog 84 #[.slice (some ⟨ga, 0, none⟩) hs.length ca, .func (.func 87) #[] #[.pointer (some ⟨q, 0, none⟩)], .pointer (some ⟨bm, 0, none⟩), .pointer (some ⟨bw, 0, none⟩)] w fun e w' => e = .returned (.tuple #[]) ∧ HState w' x.v bm bw b1 b2 gs base (markS isf hs st) ∧ Eff gs bw base w w' := by
  obtain ⟨i0, hi0, hz0, hz1, hz2⟩ := info_parts infoh
  have HH := Lib.hid (And.intro hH (And.intro hin (And.intro hn (And.intro hpos (And.intro his hkeep)))))
  clear hV hS hq hall hH hin hpos his hkeep
  go_enter Tryz.func84, Tryz.ntmps84
  go_wp2_with fail
  go_loopw [7, 8, 11] (fun _ _ i wr => ∃ k : Nat, k ≤ hs.length ∧ i = .int .i64 k ∧ HState wr x.v bm bw b1 b2 gs base (markS isf (hs.take k) st) ∧ (markS isf (hs.take k) st).2.length ≤ st.2.length + k ∧ Eff gs bw base w wr) (fun _ _ i _ => hs.length - (vI i).toNat)
  case atStart => exact ⟨0, Nat.zero_le _, rfl, HH.out.1, Nat.le_refl _, Eff.refl _ _ _ _⟩
  case round =>
    obtain ⟨k, hk, rfl, hst, hwl, hef⟩ := hrel
    by_cases hlt : k < hs.length
    · obtain ⟨kV, kS, kq, kall⟩ := HH.out.2.2.2.2.2 _ hef
      obtain ⟨i, hi⟩ : ∃ i, i = hs[k] := ⟨_, rfl⟩
      have hil : i < l.length := by rw [hi]; exact HH.out.2.1 _ (List.getElem_mem hlt)
      have hc := (row_cell kall k (by rw [List.getElem?_map, List.getElem?_eq_getElem hlt, ← hi]; rfl)).1
      have cm := cell_l hst.mark 0 rfl
      obtain ⟨s1, hs1⟩ : ∃ s1, s1 = markS isf (hs.take k) st := ⟨_, rfl⟩
      have hnx : markS isf (hs.take (k + 1)) st = mark1 isf s1 i := by rw [marks_take isf hs st k hlt, hs1, hi]
      rw [← hs1] at hst hwl
      have hls : s1.1.length = l.length := by rw [hs1, marks_len]; exact HH.out.2.2.1
      have HK := Lib.hid (And.intro kV (And.intro kS (And.intro kq (And.intro hst (And.intro hef hnx)))))
      clear kV kS kq kall hst hef hs1 hnx hi
      go_wp2_with fail
      go_at_call 81
      refine (held1 x.v i b1 b2 gs s1.1.length s1.1.length wr (cell_l HK.out.2.2.2.1.box1 0 rfl) (by omega) (lt_of_block HK.out.2.2.2.1.box1)).mono ?_
      rintro e w1 ⟨rfl, hb1⟩
      have s2 := HK.out.2.2.2.1.below hb1
      have cb := bool_cell s2.bools i (by omega)
      obtain ⟨cur, hcur⟩ : ∃ cur, cur = s1.1[i]?.getD true := ⟨_, rfl⟩
      rw [← hcur] at cb
      have H1 := Lib.hid (And.intro hb1 (And.intro s2 hcur))
      clear hb1 s2 hcur cm hc
      have ef1 : Eff gs bw base w w1 := HK.out.2.2.2.2.1.trans (Eff.below H1.out.1)
      cases cur with
      | true =>
        have he : markS isf (hs.take (k + 1)) st = s1 := by rw [HK.out.2.2.2.2.2]; unfold mark1; rw [← H1.out.2.2]; rfl
        have HE := Lib.hid (And.intro he ef1)
        clear he ef1
        go_wp2
        go_roundw
        case rel => exact ⟨k + 1, by omega, by go_num, by rw [HE.out.1]; exact H1.out.2.1, by rw [HE.out.1]; omega, HE.out.2⟩
        case measure => simp [vI]; omega
      | false =>
        obtain ⟨p1, p2, p3, p4⟩ := HH.out.2.2.2.1 i hil
        have cw := H1.out.2.1
        have HE := Lib.hid ef1
        clear ef1 cw
        go_wp2_with fail
        go_at_call 87
        refine (held4 B x p b nn i q l ps S (isf i) w1 (HK.out.1.below H1.out.1) (HK.out.2.1.below H1.out.1) hil (cell_l ((H1.out.1.block _ (lt_of_block HK.out.2.2.1)).trans HK.out.2.2.1) 0 rfl) p1 p2 p3 p4 (HH.out.2.2.2.2.1 i hil)).mono ?_
        rintro e w2 ⟨rfl, hb2⟩
        have s3 := H1.out.2.1.below hb2
        have cb2 := bool_cell s3.bools i (by omega)
        rw [← H1.out.2.2] at cb2
        have fb := free_in s3.bools i
        obtain ⟨wv, hw1, hw2⟩ := s3.work
        have cw := cell_l hw1 0 rfl
        have fw := free_in hw1 0
        obtain ⟨r, hr⟩ : ∃ r, r = isf i := ⟨_, rfl⟩
        rw [← hr]
        have H2 := Lib.hid (And.intro s3 (And.intro (HE.out.trans (Eff.below hb2)) (And.intro hr (And.intro hw1 hw2))))
        clear s3 hb2 hr hw1 hw2 cb
        cases r with
        | false =>
          have he : markS isf (hs.take (k + 1)) st = s1 := by rw [HK.out.2.2.2.2.2]; unfold mark1; rw [← H2.out.2.2.1, Bool.and_false]; rfl
          have HQ := Lib.hid he
          clear he
          go_wp2
          go_roundw
          case rel => exact ⟨k + 1, by omega, by go_num, by rw [HQ.out]; exact H2.out.1, by rw [HQ.out]; omega, H2.out.2.1⟩
          case measure => simp [vI]; omega
        | true =>
          go_upto_region 6 with fail
          refine name_world fun w3 hw3 => ?_
          have o3 : Only (· = gs) w2 w3 := by rw [← hw3]; exact (Only.refl _ _).setCell ⟨gs, i, none⟩ (.bool true) (.inl rfl)
          have k3 : w3.heap[gs]? = some (.cells ((s1.1.set i true).map Value.bool).toArray 4 (0, 0)) := by
            rw [← hw3]
            have := block_set H2.out.1.bools i (.bool true)
            rw [this]
            simp [List.map_set]
          have e3 : Eff gs bw base w w3 := H2.out.2.1.trans (o3.mono (fun k _ h => .inl h))
          have k4 := o3.kept H2.out.2.2.2.1 (show ¬ bw = gs by omega)
          have c3 := cell_l k4 0 rfl
          have hlow : ∀ g, wv.ownBlock = some g → base ≤ g ∧ g < w2.heap.size := fun g h => H2.out.2.2.2.2.lt g h
          have hgb := H2.out.1.gsb
          have r3 := H2.out.2.2.2.2.kept (grown_only o3) (by
            cases hx : wv.ownBlock with
            | none => exact .inl rfl
            | some g => exact .inr (fun e => by have := hlow g hx; have := Option.some.inj e; omega))
          have H3 := Lib.hid (And.intro o3 (And.intro k3 (And.intro e3 (And.intro r3 (And.intro hlow k4)))))
          clear hw3 o3 k3 e3 r3 hlow cw fw cb2 fb k4
          have hbwb := H2.out.1.bwb
          have l3 := H3.out.1.size
          unfold hol
          have hbase := H2.out.1.base
          go_wp2_with (first
            | (at_builtin; refine wpList_append_own_at _ rfl _ _ 178 rfl base 172 i0 .nilIface 1 16 Tryz.underlying178 hi0 hz0 hz1 hz2 rfl (by decide) wv _ _ rfl (H3.out.2.2.2.1.alloc _) ⟨w3.heap.size, 0, none⟩ 1 1 [hol x.v i] rfl rfl (cell_one_new _ _ _) (by intro u hu; rw [List.mem_singleton] at hu; rw [hu]; rfl) (by unfold maxLen; omega) (by omega) (by simp; omega) ?_; intro v' w4 hown4 hgrow4 hnil4 hloc4; clear hnil4; obtain ⟨vg, vc, rfl⟩ := row_some hown4 (Nat.succ_pos _); have k5 := (hgrow4.block bw (by simp; have := lt_of_block H3.out.2.2.2.2.2; omega) (fun e => by have := (H3.out.2.2.2.2.1 bw e.symm).1; omega)).trans (block_old H3.out.2.2.2.2.2); have c5 := cell_l k5 0 rfl; have f5 := free_in k5 0; have H4 := Lib.hid (And.intro hown4 (And.intro hgrow4 (And.intro hloc4 k5))); clear hown4 hgrow4 hloc4 k5 c3)
            | fail)
          go_roundw
          case rel =>
            obtain ⟨hown4, hgrow4, hloc4, k5⟩ := H4.out
            obtain ⟨o3, k3, e3, r3, hlow, k4⟩ := H3.out
            have s3 := H2.out.1
            have hm1 : markS isf (hs.take (k + 1)) st = (s1.1.set i true, s1.2 ++ [i]) := by
              rw [HK.out.2.2.2.2.2]; unfold mark1; rw [← H2.out.2.2.1, ← H1.out.2.2]; rfl
            have la : (w3.alloc (.cells #[hol x.v i] 172)).heap.size = w3.heap.size + 1 := by simp
            have o4 : Only (fun k => wv.ownBlock = some k) w3 w4 := ((Only.refl _ w3).alloc _).trans ⟨hgrow4.os, hgrow4.tape, hgrow4.output, hgrow4.size, fun k hk hn => hgrow4.block k hk (fun e => hn e.symm)⟩
            have o5 : Only (· = bw) w4 (w4.setCell ⟨bw, 0, none⟩ (.slice (some ⟨vg, 0, none⟩) (s1.2.length + 1) vc)) := (Only.refl _ _).setCell _ _ (.inl rfl)
            have k6 := block_set k5 0 (.slice (some ⟨vg, 0, none⟩) (s1.2.length + 1) vc)
            obtain ⟨w5, hw5⟩ : ∃ w5, w5 = w4.setCell ⟨bw, 0, none⟩ (.slice (some ⟨vg, 0, none⟩) (s1.2.length + 1) vc) := ⟨_, rfl⟩
            rw [← hw5] at o5 k6 ⊢
            have nown : ∀ g, g < base → ¬ wv.ownBlock = some g := fun g h e => by have := (hlow g e).1; omega
            have go3 : ∀ g o, g < base → g ≠ gs → g ≠ bw → w2.heap[g]? = some o → w5.heap[g]? = some o := fun g o h1 h2 h3 h => o5.kept (o4.kept (o3.kept h h2) (nown g h1)) h3
            have hvg : base ≤ vg := (hown4.lt vg rfl).1
            refine ⟨k + 1, by omega, by go_num, ?_, ?_, ?_⟩
            · rw [hm1]
              refine ⟨go3 _ _ s3.bmb hd.2.2.2.1 hd.2.2.2.2 s3.mark, ?_, o5.kept (o4.kept k3 (nown gs s3.gsb)) hd.1, ⟨_, k6, ?_⟩, s3.gsb, s3.bwb, s3.b1b, s3.bmb, Nat.le_trans s3.base (Nat.le_trans o3.size (Nat.le_trans o4.size o5.size))⟩
              · rw [List.length_set]; exact go3 _ _ s3.b1b hd.2.1 hd.2.2.1 s3.box1
              · have := hown4.kept (grown_only o5) (.inr (fun e => by have : vg = bw := Option.some.inj e; omega))
                rw [List.length_append, List.map_append]
                exact this
            · rw [hm1, List.length_append]; simp; omega
            · exact e3.trans (Only.trans (o4.mono (fun k _ h => .inr (.inr ⟨(hlow k h).1, own_cells r3 h⟩))) (o5.mono (fun k _ h => .inr (.inl h))))
          case measure => simp [vI]; omega
    · obtain rfl : k = hs.length := by omega
      have HK := Lib.hid (And.intro hst hef)
      clear hst hef
      go_wp2
      go_end0
      have h := HK.out
      rw [List.take_length] at h
      exact ⟨rfl, h.1, h.2⟩

set_option maxRecDepth 100000 in
theorem hold2_nil (f u v : Value) (w : World) :
    Calls Tryz.prog 84 #[.slice none 0 0, f, u, v] w fun e w' => e = .returned (.tuple #[]) ∧ w' = w := by
  go_enter Tryz.func84, Tryz.ntmps84
  go_wp2
  refine wp_loop_rounds 1 ?_
  rw [rounds_succ]
  go_wp2
  go_end0
  exact ⟨rfl, rfl⟩
end Go.Proofs.YtkbilipgidcgeaaGreatDoor.Tiny

namespace Go.Proofs.YtkbilipgidcgeaaGreatDoor.Tiny
open Go.RowKit Go.ChangeMaps Go.Maps

theorem marks_nil (isf : Nat → Bool) (st : List Bool × List Nat) : markS isf [] st = st := rfl

theorem hold_all3 (B : ByteArray) (x : VN) (p b nn q bm bw b1 b2 gs base : Nat) (l : List Str) (ps : List Part) (S : Int → Prop) (isf : Nat → Bool) (av : Value) (st : List Bool × List Nat) (w : World) (hV : ViewAt B w x p l ps) (hS : SetAt w b nn S) (hq : w.heap[q]? = some (.cells #[.map (some b)] 127 (0, 0)))
    (hH : HState w x.v bm bw b1 b2 gs base st) (hall : w.ownsRow 0 172 1 av l.length ((List.range l.length).map (hol x.v))) (hga : ∀ ga, av.ownBlock = some ga → ga < base) (hn : st.1.length = l.length)
    (hpos : ∀ i (hi : i < l.length), 0 ≤ l[i].at_ ∧ l[i].at_ ≤ 1000000 ∧ 0 ≤ l[i].size ∧ l[i].size ≤ 1000000) (his : ∀ i (hi : i < l.length), isf i = true ↔ ∃ z, S z ∧ l[i].at_ ≤ z ∧ z - l[i].at_ ≤ l[i].size)
    (hkeep : ∀ W, Eff gs bw base w W → ViewAt B W x p l ps ∧ SetAt W b nn S ∧ W.heap[q]? = some (.cells #[.map (some b)] 127 (0, 0)) ∧ W.ownsRow 0 172 1 av l.length ((List.range l.length).map (hol x.v))) (hlen : st.2.length + l.length ≤ 1000) (hd : gs ≠ bw ∧ b1 ≠ gs ∧ b1 ≠ bw ∧ bm ≠ gs ∧ bm ≠ bw) :
    Calls Tryz.prog 84 #[av, .func (.func 86) #[] #[.pointer (some ⟨q, 0, none⟩)], .pointer (some ⟨bm, 0, none⟩), .pointer (some ⟨bw, 0, none⟩)] w fun e w' => e = .returned (.tuple #[]) ∧ HState w' x.v bm bw b1 b2 gs base (markS isf (List.range l.length) st) ∧ Eff gs bw base w w' := by
  rcases hall.2 with ⟨rfl, h0⟩ | ⟨ga, ca, cur, rfl, _⟩
  · refine (hold2_nil _ _ _ w).mono ?_
    rintro e w' ⟨rfl, rfl⟩
    rw [h0]
    exact ⟨rfl, hH, Eff.refl _ _ _ _⟩
  · have h := hold2_3 B x p b nn q bm bw b1 b2 gs base ga ca l ps S isf (List.range l.length) st w hV hS hq hH (by rw [List.length_range]; exact hall) (hga ga rfl) (fun i hi => List.mem_range.1 hi) hn hpos his (fun W hW => by rw [List.length_range]; exact hkeep W hW) (by rw [List.length_range]; exact hlen) (by rw [List.length_range]; omega) hd
    rw [List.length_range] at h
    exact h

theorem hold_all4 (B : ByteArray) (x : VN) (p b nn q bm bw b1 b2 gs base : Nat) (l : List Str) (ps : List Part) (S : Int → Prop) (isf : Nat → Bool) (av : Value) (st : List Bool × List Nat) (w : World) (hV : ViewAt B w x p l ps) (hS : SetAt w b nn S) (hq : w.heap[q]? = some (.cells #[.map (some b)] 127 (0, 0)))
    (hH : HState w x.v bm bw b1 b2 gs base st) (hall : w.ownsRow 0 172 1 av l.length ((List.range l.length).map (hol x.v))) (hga : ∀ ga, av.ownBlock = some ga → ga < base) (hn : st.1.length = l.length)
    (hpos : ∀ i (hi : i < l.length), 0 ≤ l[i].at_ ∧ l[i].at_ ≤ 1000000 ∧ 0 ≤ l[i].size ∧ l[i].size ≤ 1000000) (his : ∀ i (hi : i < l.length), isf i = true ↔ ∃ z, S z ∧ l[i].at_ ≤ z ∧ z - l[i].at_ ≤ l[i].size)
    (hkeep : ∀ W, Eff gs bw base w W → ViewAt B W x p l ps ∧ SetAt W b nn S ∧ W.heap[q]? = some (.cells #[.map (some b)] 127 (0, 0)) ∧ W.ownsRow 0 172 1 av l.length ((List.range l.length).map (hol x.v))) (hlen : st.2.length + l.length ≤ 1000) (hd : gs ≠ bw ∧ b1 ≠ gs ∧ b1 ≠ bw ∧ bm ≠ gs ∧ bm ≠ bw) :
    Calls Tryz.prog 84 #[av, .func (.func 87) #[] #[.pointer (some ⟨q, 0, none⟩)], .pointer (some ⟨bm, 0, none⟩), .pointer (some ⟨bw, 0, none⟩)] w fun e w' => e = .returned (.tuple #[]) ∧ HState w' x.v bm bw b1 b2 gs base (markS isf (List.range l.length) st) ∧ Eff gs bw base w w' := by
  rcases hall.2 with ⟨rfl, h0⟩ | ⟨ga, ca, cur, rfl, _⟩
  · refine (hold2_nil _ _ _ w).mono ?_
    rintro e w' ⟨rfl, rfl⟩
    rw [h0]
    exact ⟨rfl, hH, Eff.refl _ _ _ _⟩
  · have h := hold2_4 B x p b nn q bm bw b1 b2 gs base ga ca l ps S isf (List.range l.length) st w hV hS hq hH (by rw [List.length_range]; exact hall) (hga ga rfl) (fun i hi => List.mem_range.1 hi) hn hpos his (fun W hW => by rw [List.length_range]; exact hkeep W hW) (by rw [List.length_range]; exact hlen) (by rw [List.length_range]; omega) hd
    rw [List.length_range] at h
    exact h
end Go.Proofs.YtkbilipgidcgeaaGreatDoor.Tiny

namespace Go.Proofs.YtkbilipgidcgeaaGreatDoor.Tiny
open Go.RowKit Go.ChangeMaps Go.Maps

/-- One round of the main loop: the last holder of the work is taken, and what its own words meet is marked. -/
def stepH (o : Nat → Nat → Bool) (n : Nat) (st : List Bool × List Nat) : List Bool × List Nat :=
  match st.2.getLast? with
  | some i => markS (o i) (List.range n) (st.1, st.2.dropLast)
  | none => st
def iterH (o : Nat → Nat → Bool) (n : Nat) : Nat → List Bool × List Nat → List Bool × List Nat
  | 0, st => st
  | j + 1, st => stepH o n (iterH o n j st)

def isFalse : Value → Bool
  | .bool false => true
  | _ => false
def sliceLen : Value → Nat
  | .slice _ n _ => n
  | _ => 0
def falses (r : List Bool) : Nat := r.countP (!·)
def measS (st : List Bool × List Nat) : Nat := 2 * falses st.1 + st.2.length
/-- The main loop's measure, off the world. -/
def measW (gs bw : Nat) (w : World) : Nat :=
  2 * (match w.heap[gs]? with | some (.cells cs _ _) => cs.toList.countP isFalse | _ => 0) + (match w.heap[bw]? with | some (.cells cs _ _) => sliceLen (cs[0]?.getD undef) | _ => 0)

theorem slice_len {w : World} {base n size : Nat} {e : TypeId} {v : Value} {xs : List Value} (h : w.ownsRow base e size v n xs) : ∃ a c, v = .slice a n c := by
  rcases h.2 with ⟨rfl, h0⟩ | ⟨g, cap, cur, rfl, _⟩
  · exact ⟨none, 0, by rw [h0]⟩
  · exact ⟨_, _, rfl⟩
theorem falses_cells (r : List Bool) : (r.map Value.bool).countP isFalse = falses r := by
  unfold falses
  simp only [List.countP_map]
  congr 1
  funext b
  cases b <;> rfl
theorem meas_eq {W : World} {v bm bw b1 b2 gs base : Nat} {st : List Bool × List Nat} (h : HState W v bm bw b1 b2 gs base st) : measW gs bw W = measS st := by
  obtain ⟨wv, h1, h2⟩ := h.work
  obtain ⟨a, c, rfl⟩ := slice_len h2
  unfold measW measS
  rw [h.bools, h1]
  show 2 * (st.1.map Value.bool).countP isFalse + st.2.length = _
  rw [falses_cells]

theorem falses_set (r : List Bool) : ∀ (i : Nat), r[i]?.getD true = false → falses (r.set i true) + 1 = falses r := by
  unfold falses
  induction r with
  | nil => intro i h; simp at h
  | cons b r ih =>
    intro i h
    cases i with
    | zero => simp at h; subst h; simp
    | succ i =>
      have := ih i (by simpa using h)
      simp only [List.set_cons_succ, List.countP_cons]
      omega
theorem mark_meas (isf : Nat → Bool) (st : List Bool × List Nat) (i : Nat) : measS (mark1 isf st i) ≤ measS st := by
  unfold mark1
  split
  · rename_i h
    rw [Bool.and_eq_true, Bool.not_eq_true'] at h
    have := falses_set st.1 i h.1
    unfold measS
    simp only [List.length_append, List.length_cons, List.length_nil]
    omega
  · exact Nat.le_refl _
theorem marks_meas (isf : Nat → Bool) : ∀ (hs : List Nat) (st : List Bool × List Nat), measS (markS isf hs st) ≤ measS st
  | [], _ => Nat.le_refl _
  | i :: hs, st => Nat.le_trans (marks_meas isf hs (mark1 isf st i)) (mark_meas isf st i)
theorem mark_room (isf : Nat → Bool) (st : List Bool × List Nat) (i : Nat) : falses (mark1 isf st i).1 + (mark1 isf st i).2.length ≤ falses st.1 + st.2.length := by
  unfold mark1
  split
  · rename_i h
    rw [Bool.and_eq_true, Bool.not_eq_true'] at h
    have := falses_set st.1 i h.1
    simp only [List.length_append, List.length_cons, List.length_nil]
    omega
  · exact Nat.le_refl _
theorem marks_room (isf : Nat → Bool) : ∀ (hs : List Nat) (st : List Bool × List Nat), falses (markS isf hs st).1 + (markS isf hs st).2.length ≤ falses st.1 + st.2.length
  | [], _ => Nat.le_refl _
  | i :: hs, st => Nat.le_trans (marks_room isf hs (mark1 isf st i)) (mark_room isf st i)
/-- What the work holds: numbers of strata. -/
theorem mark_work (isf : Nat → Bool) (n : Nat) (st : List Bool × List Nat) (i : Nat) (hi : i < n) (h : ∀ k ∈ st.2, k < n) : ∀ k ∈ (mark1 isf st i).2, k < n := by
  unfold mark1
  split
  · intro k hk
    rcases List.mem_append.1 hk with hk | hk
    · exact h k hk
    · rw [List.mem_singleton] at hk; omega
  · exact h
theorem marks_work (isf : Nat → Bool) (n : Nat) : ∀ (hs : List Nat) (st : List Bool × List Nat), (∀ i ∈ hs, i < n) → (∀ k ∈ st.2, k < n) → ∀ k ∈ (markS isf hs st).2, k < n
  | [], _, _, h => h
  | i :: hs, st, hi, h => marks_work isf n hs (mark1 isf st i) (fun k hk => hi k (List.mem_cons_of_mem _ hk)) (mark_work isf n st i (hi i (by simp)) h)
theorem falses_le (r : List Bool) : falses r ≤ r.length := List.countP_le_length
end Go.Proofs.YtkbilipgidcgeaaGreatDoor.Tiny

namespace Go.Proofs.YtkbilipgidcgeaaGreatDoor.Tiny
open Go.RowKit Go.ChangeMaps Go.Maps

theorem row_pop {w : World} {base g n cap : Nat} {e : TypeId} {xs : List Value} (h : w.ownsRow base e 1 (.slice (some ⟨g, 0, none⟩) (n + 1) cap) (n + 1) xs) : w.ownsRow base e 1 (.slice (some ⟨g, 0, none⟩) n cap) n xs.dropLast := by
  obtain ⟨hl, h⟩ := h
  rcases h with ⟨h, _⟩ | ⟨g', cap', cur, h1, h2, h3, h4, h5, h6, h7⟩
  · cases h
  · injection h1 with e1 e2 e3
    injection e1 with e1
    injection e1 with e1
    subst e1 e3
    refine ⟨by simp [hl], .inr ⟨g, cap, cur, rfl, h2, h3, by omega, h5, h6, ?_⟩⟩
    rw [List.dropLast_eq_take, hl, ← h7, List.take_take]
    congr 1
    omega

theorem row_keep {w w' : World} {S : Nat → Prop} {base size n : Nat} {e : TypeId} {v : Value} {xs : List Value} (h : w.ownsRow base e size v n xs) (ho : Only S w w') (hn : ∀ g, v.ownBlock = some g → ¬ S g) : w'.ownsRow base e size v n xs := by
  refine ⟨h.1, ?_⟩
  rcases h.2 with h | ⟨g, cap, cur, rfl, h2, h3, h4⟩
  · exact .inl h
  · exact .inr ⟨g, cap, cur, rfl, h2, ho.kept h3 (hn g rfl), h4⟩
/-- What a stratum's own words are read from: its instructions J. -/
structure OwnOk (ps : List Part) (s : Str) (J : List InsR) : Prop where
  kind : s.kind = 0
  h8 : s.at_ % 8 = 0
  h2 : 0 < s.size
  h3 : s.at_ + s.size ≤ 1000000
  len : J.length = (hitsL ps s.at_ s.size).length
  dec : ∀ k (h1 : k < (hitsL ps s.at_ s.size).length) (h2 : k < J.length), DecOk ((hitsL ps s.at_ s.size)[k]).2 J[k]
  few : J.length ≤ 80
/-- The own words of a stratum. -/
def OwnS (ps : List Part) (s : Str) (J : List InsR) (z : Int) : Prop := MadeTo (hitsL ps s.at_ s.size) J J.length z ∨ Comb (lowsJ J) (highsJ J) z ∨ ∃ e ∈ hitsL ps s.at_ s.size, z = hitW e

/-- What a step of marking may turn is of Held's own blocks. -/
theorem HState.own {W : World} {v bm bw b1 b2 gs base : Nat} {st : List Bool × List Nat} (h : HState W v bm bw b1 b2 gs base st) : ∀ k, k < W.heap.size → (k = gs ∨ k = bw ∨ (base ≤ k ∧ ∃ cs fr, W.heap[k]? = some (Obj.cells cs 172 fr))) → ∃ cs t fr, W.heap[k]? = some (Obj.cells cs t fr) ∧ (t = 117 ∨ t = 4 ∨ t = 178 ∨ t = 172) := by
  intro k hk hs
  obtain ⟨wv, hw1, _⟩ := h.work
  rcases hs with rfl | rfl | ⟨_, cs, fr, hc⟩
  · exact ⟨_, _, _, h.bools, .inr (.inl rfl)⟩
  · exact ⟨_, _, _, hw1, .inr (.inr (.inl rfl))⟩
  · exact ⟨_, _, _, hc, .inr (.inr (.inr rfl))⟩

/-- The last of the work is taken. -/
theorem HState.pop {W : World} {v bm bw b1 b2 gs base g c m : Nat} {st : List Bool × List Nat} (h : HState W v bm bw b1 b2 gs base st) (hd : gs ≠ bw ∧ b1 ≠ gs ∧ b1 ≠ bw ∧ bm ≠ gs ∧ bm ≠ bw) (hw : W.heap[bw]? = some (.cells #[.slice (some ⟨g, 0, none⟩) (m + 1) c] 178 (0, 0)))
    (hr : W.ownsRow base 172 1 (.slice (some ⟨g, 0, none⟩) (m + 1) c) (m + 1) (st.2.map (hol v))) : HState (W.setCell ⟨bw, 0, none⟩ (.slice (some ⟨g, 0, none⟩) m c)) v bm bw b1 b2 gs base (st.1, st.2.dropLast) := by
  have ho : Only (· = bw) W (W.setCell ⟨bw, 0, none⟩ (.slice (some ⟨g, 0, none⟩) m c)) := (Only.refl _ _).setCell _ _ (.inl rfl)
  have k6 := block_set (l := [_]) hw 0 (.slice (some ⟨g, 0, none⟩) m c)
  have hp := row_pop hr
  have hlen : st.2.dropLast.length = m := by
    have := hr.1
    simp at this
    simp [this]
  have hg : base ≤ g := (hr.lt g rfl).1
  have hbw := h.bwb
  refine ⟨ho.kept h.mark hd.2.2.2.2, ho.kept h.box1 hd.2.2.1, ho.kept h.bools hd.1, ⟨_, k6, ?_⟩, h.gsb, h.bwb, h.b1b, h.bmb, Nat.le_trans h.base ho.size⟩
  rw [hlen]
  have : (st.1, st.2.dropLast).2.map (hol v) = (st.2.map (hol v)).dropLast := by simp [List.map_dropLast]
  rw [this]
  exact row_keep hp ho (fun g' hg' e => by
    have e1 : g = g' := Option.some.inj hg'
    have e2 : g' = bw := e
    omega)

theorem mem_dropLast {α : Type} {a : α} {l : List α} (h : a ∈ l.dropLast) : a ∈ l := by
  rw [List.dropLast_eq_take] at h
  exact List.mem_of_mem_take h
/-- What every state of the main loop bears. -/
structure StOk (n : Nat) (st : List Bool × List Nat) : Prop where
  len : st.1.length = n
  work : ∀ k ∈ st.2, k < n
  room : falses st.1 + st.2.length ≤ n
theorem StOk.marks {n : Nat} {st : List Bool × List Nat} (h : StOk n st) (isf : Nat → Bool) : StOk n (markS isf (List.range n) st) :=
  ⟨(marks_len isf _ st).trans h.len, marks_work isf n _ st (fun i hi => List.mem_range.1 hi) h.work, Nat.le_trans (marks_room isf _ st) h.room⟩
theorem StOk.pop {n : Nat} {st : List Bool × List Nat} (h : StOk n st) : StOk n (st.1, st.2.dropLast) :=
  ⟨h.len, fun k hk => h.work k (mem_dropLast hk), by have := h.room; simp only [List.length_dropLast]; omega⟩
theorem StOk.step {n : Nat} {st : List Bool × List Nat} (h : StOk n st) (o : Nat → Nat → Bool) : StOk n (stepH o n st) := by
  unfold stepH
  split
  · exact h.pop.marks _
  · exact h
theorem StOk.iter {n : Nat} {st : List Bool × List Nat} (h : StOk n st) (o : Nat → Nat → Bool) : ∀ j, StOk n (iterH o n j st)
  | 0 => h
  | j + 1 => (h.iter o j).step o
theorem StOk.first (n : Nat) : StOk n (List.replicate n false, []) := ⟨List.length_replicate, fun k hk => absurd hk (by simp), by have := falses_le (List.replicate n false); rw [List.length_replicate] at this; simpa using this⟩

theorem step_end (o : Nat → Nat → Bool) (n : Nat) (st : List Bool × List Nat) (h : st.2 = []) : stepH o n st = st := by
  unfold stepH
  rw [h]
  rfl
theorem step_snoc (o : Nat → Nat → Bool) (n : Nat) (st : List Bool × List Nat) (i : Nat) (h : st.2.getLast? = some i) : stepH o n st = markS (o i) (List.range n) (st.1, st.2.dropLast) := by
  unfold stepH
  rw [h]
theorem iter_stop (o : Nat → Nat → Bool) (n : Nat) (st : List Bool × List Nat) (j : Nat) (h : (iterH o n j st).2 = []) : ∀ k, iterH o n (j + k) st = iterH o n j st
  | 0 => rfl
  | k + 1 => by
    rw [← Nat.add_assoc]
    show stepH o n (iterH o n (j + k) st) = _
    rw [iter_stop o n st j h k, step_end _ _ _ h]
theorem iter_same (o : Nat → Nat → Bool) (n : Nat) (st : List Bool × List Nat) (j k : Nat) (hj : (iterH o n j st).2 = []) (hk : (iterH o n k st).2 = []) : iterH o n j st = iterH o n k st := by
  rcases Nat.le_total j k with h | h
  · obtain ⟨d, rfl⟩ := Nat.exists_eq_add_of_le h
    exact (iter_stop o n st j hj d).symm
  · obtain ⟨d, rfl⟩ := Nat.exists_eq_add_of_le h
    exact iter_stop o n st k hk d
end Go.Proofs.YtkbilipgidcgeaaGreatDoor.Tiny
