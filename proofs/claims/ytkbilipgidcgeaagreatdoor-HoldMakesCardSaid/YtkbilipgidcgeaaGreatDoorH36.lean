/- The row of linchpinlaw38.HoldMakes: the table of the forms as the row lays it; its argument. -/
import Derived.Test.YtkbilipgidcgeaaGreatDoorRows
import Derived.ProofKit
import Derived.LaidMore
import Derived.OpenShut
import Derived.Carry
import Derived.SizedLaws
import Derived.Deep.Slices
import Derived.Test.YtkbilipgidcgeaaGreatDoorH35
set_option linter.unusedVariables false
set_option linter.unusedSimpArgs false
namespace Go.Proofs.YtkbilipgidcgeaaGreatDoor.Tiny
open Go.ChangeShapes Go.WideShapes Go.ChangeAt Go.WideElems Go.RowKit

instance : Inhabited InsR := ⟨⟨0, 0, 0, 0, 0⟩⟩

/-- The name of the laid variable. -/
def fName : String := (Rows.holdMakesRow.laid.headD default).1
theorem gForms : Tryz.prog.globalNamed fName = some 0 := by kernel_rfl
theorem tForms : (Tryz.prog.globals[0]?).map (·.type) = some 293 := by kernel_rfl

theorem forms_datum {H : Type} : ∃ l : List (DataW H), Rows.laid_linchpin_isa_forms (H := H) = .agg l ∧ ∀ i, i < 31 → ∃ a c d, l[i]? = some (.agg [a, .lit (.string (opF i).data.toList), c, d]) := by
  refine ⟨_, rfl, fun i hi => ?_⟩
  match i, hi with
  | 0, _ | 1, _ | 2, _ | 3, _ | 4, _ | 5, _ | 6, _ | 7, _ | 8, _ | 9, _ | 10, _ | 11, _ | 12, _ | 13, _ | 14, _ | 15, _ | 16, _ | 17, _ | 18, _ | 19, _ | 20, _ | 21, _ | 22, _ | 23, _ | 24, _ | 25, _ | 26, _ | 27, _ | 28, _ | 29, _ | 30, _ => exact ⟨_, _, _, rfl⟩
  | n + 31, h => exact absurd h (by omega)

set_option maxRecDepth 100000 in
theorem forms_of_laid {W : World} (h : laidMetH Tryz.prog Rows.holdMakesRow.laid W) : Forms W := by
  rw [MakeChecks.laidMetH_plain _ _ _ (by kernel_rfl)] at h
  obtain ⟨ps, ⟨g0, t0, cs0, f0, p0, q0, hg0, ht0, hv0, hd0, _⟩, _, _⟩ := h
  obtain rfl := Option.some.inj (gForms.symm.trans hg0)
  obtain rfl := Option.some.inj (tForms.symm.trans ht0)
  have hu := Tryz.underlying293
  have he := Tryz.underlying292
  have hc : Tryz.prog.cellsOf 292 = 4 := by kernel_rfl
  have hcs : Tryz.prog.cellsOf 9 = 1 := by kernel_rfl
  have hs := Tryz.underlying9
  obtain ⟨l, hl, hli⟩ := forms_datum (H := Unit)
  obtain ⟨xs, m, _, hx, hlen, hn, hel⟩ := DataW.trod_array hu hd0
  rw [hl] at hx
  simp only [Prod.mk.injEq, DataW.agg.injEq] at hx
  have hcell := fun i => World.var?_cell hg0 hv0 i
  have get : ∀ op : Nat, op < 31 → W.cell? ⟨0, op * 4 + 1, none⟩ = some (.string (opF op)) := by
    intro op hop
    obtain ⟨a, c, d, hop'⟩ := hli op hop
    have h1 := hel op hop
    have hxo : op < xs.length := by omega
    rw [List.getElem?_eq_getElem hxo, hc] at h1
    obtain ⟨ys, k, _, hy, hyl, hyn, hf⟩ := DataW.trod_struct he h1
    have h2 : DataW.trod (fun _ => ()) Tryz.prog W 0 (fun _ => true) false k 9 ((((cs0.toList.drop (op * 4)).take 4).drop 1).take (Tryz.prog.cellsOf 9)) = ys[1]? := hf 1 _ rfl
    have hy1 : 1 < ys.length := by simp at hyn; omega
    rw [List.getElem?_eq_getElem hy1, hcs] at h2
    obtain ⟨s, hs1, hs2, _⟩ := DataW.trod_string hs h2
    have h3 : l[op]? = some xs[op].1 := by rw [hx.1]; simp [List.getElem?_eq_getElem hxo]
    rw [h3, hy] at hop'
    simp only [Option.some.injEq, DataW.agg.injEq] at hop'
    have h4 : (ys.map (·.1))[1]? = some (.lit (.string (opF op).data.toList)) := by rw [hop']; rfl
    rw [List.getElem?_map, List.getElem?_eq_getElem hy1, hs2] at h4
    have h4a : (DataW.lit (.string s.data.toList) : DataW Unit) = .lit (.string (opF op).data.toList) := Option.some.inj h4
    have h4b : s.data.toList = (opF op).data.toList := by injection h4a with h; injection h
    have h5 : s = opF op := ByteArray.ext (Array.ext' h4b)
    rw [hcell]
    have h6 : ((((cs0.toList.drop (op * 4)).take 4).drop 1).take 1)[0]? = some (.string s) := by rw [hs1]; rfl
    rw [List.getElem?_take_of_lt (by omega), List.getElem?_drop, List.getElem?_take_of_lt (by omega), List.getElem?_drop] at h6
    rw [← h5, ← Array.getElem?_toList]
    simpa [Nat.add_assoc] using h6
  exact ⟨World.block_lt_of_cell? W _ (get 0 (by omega)), get⟩

set_option maxRecDepth 100000 in
theorem ins_of_slice {H : Type} {enc : TypeId × Value → H} {W : World} {base : Nat} {v : Value} {d : DataW H} {ps : List MemPlace} (hv : Value.okWide Tryz.prog W .any base 60 v) (h : DataW.Trod enc Tryz.prog W 0 (fun _ => true) true 60 v d ps) :
    ∃ (b : Option Addr) (l : List InsR) (k : Nat), v = .slice b l.length k ∧ InsV W.heap.size W v l ∧ (l = [] ∨ ∃ elems spare, d = .slice elems spare ∧ elems.length = l.length) := by
  obtain ⟨a0, len, cap, rfl⟩ := okWide_slice Tryz.underlying60 hv
  obtain ⟨fuel, hf⟩ := h
  rcases Deep.open_slice Tryz.underlying60 hf with ⟨hcs, _⟩ | ⟨a, len', cap', m, n, D, Pl, hcs, _, hl, hm, hmm, hx, hel⟩
  · simp [Value.cells] at hcs
    obtain ⟨rfl, rfl, rfl⟩ := hcs
    exact ⟨none, [], 0, rfl, .inl ⟨rfl, rfl⟩, .inl rfl⟩
  · simp [Value.cells] at hcs
    obtain ⟨rfl, rfl, rfl⟩ := hcs
    simp only [Value.okWide, Tryz.underlying60, Cell.okWide, Cell.ok] at hv
    obtain ⟨_, _, _, hspot, row, cells, hsh, _⟩ := hv
    obtain ⟨g, o, spot⟩ := a
    dsimp only at hspot hsh
    subst hspot
    have hg : g < W.heap.size := by
      unfold World.shape? at hsh
      split at hsh
      · exact lt_of_block (by assumption)
      · cases hsh
    simp only [if_true] at hmm
    have hc5 : Tryz.prog.cellsOf 67 = 5 := by kernel_rfl
    have hci : Tryz.prog.cellsOf 3 = 1 := by kernel_rfl
    rw [hc5] at hel
    have each : ∀ i, i < len → ∃ p : InsR, W.cell? ⟨g, o + i * 5, none⟩ = some (.int .i64 p.op) ∧ W.cell? ⟨g, o + i * 5 + 1, none⟩ = some (.int .i64 p.a) ∧ W.cell? ⟨g, o + i * 5 + 2, none⟩ = some (.int .i64 p.b) ∧ W.cell? ⟨g, o + i * 5 + 3, none⟩ = some (.int .i64 p.c) ∧ W.cell? ⟨g, o + i * 5 + 4, none⟩ = some (.int .i64 p.imm) := by
      intro i hi
      obtain ⟨cs', h1, h2⟩ := hel i (by omega)
      obtain ⟨_, hlen, hcell⟩ := World.cells?_some h1
      obtain ⟨xs, k, _, _, _, hxl, hfl⟩ := DataW.trod_struct Tryz.underlying67 h2
      match cs', hlen with
      | [v0, v1, v2, v3, v4], _ =>
        have hx5 : xs.length = 5 := hxl
        match xs, hx5 with
        | [y0, y1, y2, y3, y4], _ =>
          have g0 : DataW.trod enc Tryz.prog W 0 (fun _ => true) true k 3 (([v0, v1, v2, v3, v4].drop 0).take (Tryz.prog.cellsOf 3)) = some y0 := hfl 0 _ rfl
          have g1 : DataW.trod enc Tryz.prog W 0 (fun _ => true) true k 3 (([v0, v1, v2, v3, v4].drop 1).take (Tryz.prog.cellsOf 3)) = some y1 := hfl 1 _ rfl
          have g2 : DataW.trod enc Tryz.prog W 0 (fun _ => true) true k 3 (([v0, v1, v2, v3, v4].drop 2).take (Tryz.prog.cellsOf 3)) = some y2 := hfl 2 _ rfl
          have g3 : DataW.trod enc Tryz.prog W 0 (fun _ => true) true k 3 (([v0, v1, v2, v3, v4].drop 3).take (Tryz.prog.cellsOf 3)) = some y3 := hfl 3 _ rfl
          have g4 : DataW.trod enc Tryz.prog W 0 (fun _ => true) true k 3 (([v0, v1, v2, v3, v4].drop 4).take (Tryz.prog.cellsOf 3)) = some y4 := hfl 4 _ rfl
          rw [hci] at g0 g1 g2 g3 g4
          obtain ⟨q0, e0, _⟩ := DataW.trod_int Tryz.underlying3 g0
          obtain ⟨q1, e1, _⟩ := DataW.trod_int Tryz.underlying3 g1
          obtain ⟨q2, e2, _⟩ := DataW.trod_int Tryz.underlying3 g2
          obtain ⟨q3, e3, _⟩ := DataW.trod_int Tryz.underlying3 g3
          obtain ⟨q4, e4, _⟩ := DataW.trod_int Tryz.underlying3 g4
          simp only [List.drop, List.take, List.cons.injEq, and_true] at e0 e1 e2 e3 e4
          subst e0 e1 e2 e3 e4
          have c0 := hcell 0 (by omega)
          have c1 := hcell 1 (by omega)
          have c2 := hcell 2 (by omega)
          have c3 := hcell 3 (by omega)
          have c4 := hcell 4 (by omega)
          rw [add_plain, add_plain] at c0 c1 c2 c3 c4
          exact ⟨⟨q0, q1, q2, q3, q4⟩, c0, c1, c2, c3, c4⟩
    obtain ⟨V, hV⟩ := Deep.choose_lt each
    have hlen : ((List.range len).map V).length = len := by simp
    refine ⟨some ⟨g, o, none⟩, (List.range len).map V, cap, by rw [hlen], .inr ⟨g, o, cap, by rw [hlen], hg, fun j v hj => ?_⟩, .inr ⟨_, _, congrArg Prod.fst hx, by simp⟩⟩
    have hj5 : j < len * 5 := by
      have := (List.getElem?_eq_some_iff.1 hj).1
      rw [insCells_length, hlen] at this
      exact this
    have hi : j / 5 < ((List.range len).map V).length := by rw [hlen]; omega
    have hg5 := insCells_get ((List.range len).map V) (j / 5) hi (j % 5) (by omega)
    rw [show j / 5 * 5 + j % 5 = j by omega, hj] at hg5
    obtain ⟨e0, e1, e2, e3, e4⟩ := hV (j / 5) (by omega)
    simp only [List.getElem_map, List.getElem_range] at hg5
    have hr : j % 5 = 0 ∨ j % 5 = 1 ∨ j % 5 = 2 ∨ j % 5 = 3 ∨ j % 5 = 4 := by omega
    rcases hr with hr | hr | hr | hr | hr
    · rw [hr] at hg5
      rw [show o + j = o + j / 5 * 5 by omega, e0]
      exact hg5.symm
    · rw [hr] at hg5
      rw [show o + j = o + j / 5 * 5 + 1 by omega, e1]
      exact hg5.symm
    · rw [hr] at hg5
      rw [show o + j = o + j / 5 * 5 + 2 by omega, e2]
      exact hg5.symm
    · rw [hr] at hg5
      rw [show o + j = o + j / 5 * 5 + 3 by omega, e3]
      exact hg5.symm
    · rw [hr] at hg5
      rw [show o + j = o + j / 5 * 5 + 4 by omega, e4]
      exact hg5.symm

theorem own : ownKnob Tryz.prog.godebug = none := by kernel_rfl
theorem laidOut : laidOutB Tryz.prog = true := by kernel_rfl
theorem door_met (os : Os) (args : Array Value) : laidMetH Tryz.prog Rows.holdMakesRow.laid ((World.doorLaid Tryz.prog 4000 os).forCall (fun _ _ => 0) ⟨#[], args, []⟩).memory :=
  laidMetH_of_parts3 (fuel := 8) (laidMet_of_run' 8 (by kernel_rfl) (by kernel_rfl)) (by kernel_rfl) (by kernel_rfl)
end Go.Proofs.YtkbilipgidcgeaaGreatDoor.Tiny
