/- The row of linchpinlaw45.DumpReads: the tables, the opening of a dump, the contract lifted. -/
import Derived.Test.YtacaejpamidkcaaGreatDoorRows
import Derived.LaidMore
import Derived.Lib.LaidTab
import Derived.Deep.DeepWitnessRowRef
import Derived.Test.YtacaejpamidkcaaGreatDoorR46
set_option linter.unusedVariables false
set_option linter.unusedSimpArgs false
set_option maxRecDepth 100000
namespace Go.Proofs.YtacaejpamidkcaaGreatDoor
section
open Go.ChangeShapes Go.WideShapes Go.ChangeAt Go.WideElems Go.RowKit
def gv_ : List (String × DataW Unit) := Rows.dumpReadsUptoRow.laid
def numsOf : DataW Unit → List Int
 | .agg l => l.map fun
  | .lit (.int _ n) => n
  | _ => 0
 | _ => []
def la_ : List Int := numsOf Rows.laid_linchpin_digest_turns
def l7_ : List Int := numsOf Rows.laid_linchpin_digest_constants
def tName : String := (gv_.headD default).1
def cName : String := ((gv_.drop 1).headD default).1
def fName : String := ((gv_.drop 2).headD default).1
theorem sm_ : gv_ = [(tName, Lib.tabData .i64 la_), (cName, Lib.tabData .u64 l7_), (fName, Rows.laid_linchpin_isa_forms)] := by kernel_rfl
theorem gTurns : Tryz.prog.globalNamed tName = some 2 := by kernel_rfl
theorem vy_ : Tryz.prog.globalNamed cName = some 1 := by kernel_rfl
theorem gForms : Tryz.prog.globalNamed fName = some 0 := by kernel_rfl
theorem tTurns : (Tryz.prog.globals[2]?).map (·.type) = some 531 := by kernel_rfl
theorem tConsts : (Tryz.prog.globals[1]?).map (·.type) = some 528 := by kernel_rfl
theorem tForms : (Tryz.prog.globals[0]?).map (·.type) = some 221 := by kernel_rfl
theorem j7_ {W : World} {n : String} {d : DataW Unit} {r : List (String × DataW Unit)} {ps : List MemPlace} (h : DataW.LaidVars Tryz.prog W ((n, d) :: r) ps) {g : Nat} {t : TypeId} (hg : Tryz.prog.globalNamed n = some g) (ht : (Tryz.prog.globals[g]?).map (·.type) = some t) :
 (∃ cs fuel p, W.var? Tryz.prog n = some cs ∧ DataW.trod (fun _ => ()) Tryz.prog W 0 (fun _ => true) false fuel t cs.toList = some (d, p)) ∧ ∃ q, DataW.LaidVars Tryz.prog W r q := by
 obtain ⟨g', t', cs, fuel, p, q, hg', ht', hv, hd, hr, _⟩ := h
 obtain rfl := Option.some.inj (hg.symm.trans hg')
 obtain rfl := Option.some.inj (ht.symm.trans ht')
 exact ⟨⟨cs, fuel, p, hv, hd⟩, q, hr⟩
theorem ph_ {H : Type} : ∃ l : List (DataW H), Rows.laid_linchpin_isa_forms (H := H) = .agg l ∧ ∀ i, i < 31 → ∃ a c d, l[i]? = some (.agg [a, .lit (.string (opF i).data.toList), c, d]) := by
 refine ⟨_, rfl, fun i hi => ?_⟩
 match i, hi with
 | 0, _ | 1, _ | 2, _ | 3, _ | 4, _ | 5, _ | 6, _ | 7, _ | 8, _ | 9, _ | 10, _ | 11, _ | 12, _ | 13, _ | 14, _ | 15, _ | 16, _ | 17, _ | 18, _ | 19, _ | 20, _ | 21, _ | 22, _ | 23, _ | 24, _ | 25, _ | 26, _ | 27, _ | 28, _ | 29, _ | 30, _ => exact ⟨_, _, _, rfl⟩
 | n + 31, h => exact absurd h (by omega)
theorem l8_ {W : World} {cs0 : Array Value} {f0 : Nat} {p0 : List MemPlace} (hv0 : W.var? Tryz.prog fName = some cs0) (hd0 : DataW.trod (fun _ => ()) Tryz.prog W 0 (fun _ => true) false f0 221 cs0.toList = some (Rows.laid_linchpin_isa_forms, p0)) : Forms W := by
 have hu := Tryz.underlying221
 have he := Tryz.underlying220
 have hc : Tryz.prog.cellsOf 220 = 4 := by kernel_rfl
 have hcs : Tryz.prog.cellsOf 9 = 1 := by kernel_rfl
 have hs := Tryz.underlying9
 obtain ⟨l, hl, hli⟩ := ph_ (H := Unit)
 obtain ⟨xs, m, _, hx, hlen, hn, hel⟩ := DataW.trod_array hu hd0
 rw [hl] at hx
 simp only [Prod.mk.injEq, DataW.agg.injEq] at hx
 have hcell := fun i => World.var?_cell gForms hv0 i
 have get : ∀ op : Nat, op < 31 → W.cell? ⟨0, op * 4 + 1, none⟩ = some (.string (opF op)) := by
  intro op hop
  obtain ⟨a, c, d, hop'⟩ := hli op hop
  have h1 := hel op hop
  have hxo : op < xs.length := by omega
  rw [List.getElem?_eq_getElem hxo, hc] at h1
  obtain ⟨ys, k, _, hy, hyl, hyn, hf⟩ := DataW.trod_struct he h1
  have h2 : DataW.trod (fun _ => ()) Tryz.prog W 0 (fun _ => true) false k 9 ((((cs0.toList.drop (op * 4)).take 4).drop 1).take (Tryz.prog.cellsOf 9)) = ys[1]? := hf 1 _ rfl
  have hy1 : 1 < ys.length := by simp at hyn; omega
  rw [List.getElem?_eq_getElem hy1, hcs] at h2
  obtain ⟨s, hs1, hs2, _⟩ := DataW.trod_string hs h2
  have h3 : l[op]? = some xs[op].1 := by rw [hx.1]; simp [List.getElem?_eq_getElem hxo]
  rw [h3, hy] at hop'
  simp only [Option.some.injEq, DataW.agg.injEq] at hop'
  have h4 : (ys.map (·.1))[1]? = some (.lit (.string (opF op).data.toList)) := by rw [hop']; rfl
  rw [List.getElem?_map, List.getElem?_eq_getElem hy1, hs2] at h4
  have h4a : (DataW.lit (.string s.data.toList) : DataW Unit) = .lit (.string (opF op).data.toList) := Option.some.inj h4
  have h4b : s.data.toList = (opF op).data.toList := by injection h4a with h; injection h
  have h5 : s = opF op := ByteArray.ext (Array.ext' h4b)
  rw [hcell]
  have h6 : ((((cs0.toList.drop (op * 4)).take 4).drop 1).take 1)[0]? = some (.string s) := by rw [hs1]; rfl
  rw [List.getElem?_take_of_lt (by omega), List.getElem?_drop, List.getElem?_take_of_lt (by omega), List.getElem?_drop] at h6
  rw [← h5, ← Array.getElem?_toList]
  simpa [Nat.add_assoc] using h6
 exact ⟨World.block_lt_of_cell? W _ (get 0 (by omega)), get⟩
def q8_ (i : Nat) : Nat := (la_.getD i 0).toNat
def vz_ (i : Nat) : Int := l7_.getD i 0
theorem j8_ : ∀ i, i < 25 → 0 ≤ la_.getD i 0 ∧ la_.getD i 0 < 64 := by decide +kernel
theorem v0_ : la_.length = 25 := by decide +kernel
theorem sn_ : l7_.length = 24 := by decide +kernel
theorem pi_ : Tryz.prog.cellsOf 531 = 25 := by kernel_rfl
theorem no_ : Tryz.prog.cellsOf 528 = 24 := by kernel_rfl
theorem cells_i : Tryz.prog.cellsOf 3 = 1 := by kernel_rfl
theorem v1_ : Tryz.prog.cellsOf 147 = 1 := by kernel_rfl
theorem tables {W : World} (h0 : laidMetH Tryz.prog gv_ W) : Forms W ∧ Tabs q8_ vz_ W := by
 rw [MakeChecks.laidMetH_plain _ _ _ (by kernel_rfl), sm_] at h0
 obtain ⟨ps, h, _⟩ := h0
 obtain ⟨⟨cs1, f1, p1, v1, d1⟩, q1, r1⟩ := j7_ h gTurns tTurns
 obtain ⟨⟨cs2, f2, p2, v2, d2⟩, q2, r2⟩ := j7_ r1 vy_ tConsts
 obtain ⟨⟨cs3, f3, p3, v3, d3⟩, _, _⟩ := j7_ r2 gForms tForms
 have e1 := Lib.cells_of_tab Tryz.underlying531 Tryz.underlying3 cells_i pi_ d1
 have e2 := Lib.cells_of_tab Tryz.underlying528 Tryz.underlying147 v1_ no_ d2
 have t1 : Lib.TabIs Tryz.prog W tName .i64 la_ := by unfold Lib.TabIs; rw [v1, ← e1]
 have t2 : Lib.TabIs Tryz.prog W cName .u64 l7_ := by unfold Lib.TabIs; rw [v2, ← e2]
 refine ⟨l8_ v3 d3, fun i hi => ?_, fun i hi => ?_, fun i hi => ?_⟩
 · exact t2.cell vy_ i (by rw [sn_]; exact hi)
 · have := t1.cell gTurns i (by rw [v0_]; exact hi)
   rw [this]
   unfold q8_
   rw [Int.toNat_of_nonneg (j8_ i hi).1]
 · have := j8_ i hi
   unfold q8_
   omega
end
section
open Go.RowKit Go.WideShapes Wire
theorem i3_ {H : Type} (d : DataW H) : 1 ≤ Rows.uptoBulk d := by
 cases d with
 | lit l => cases l <;> simp [Rows.uptoBulk]
 | nil => simp [Rows.uptoBulk]
 | ptr d => simp [Rows.uptoBulk]
 | slice elems spare => simp [Rows.uptoBulk]
 | agg parts => simp [Rows.uptoBulk]
 | iface t d => simp [Rows.uptoBulk]
 | map entries => simp [Rows.uptoBulk]
 | held h => simp [Rows.uptoBulk]
theorem pj_ {H : Type} (l : List (DataW H)) : l.length ≤ Rows.uptoBulkAll l := by
 induction l with
 | nil => simp [Rows.uptoBulkAll]
 | cons x r ih => have := i3_ x; simp only [Rows.uptoBulkAll, List.length_cons]; omega
def ht_ {H : Type} (enc : TypeId × Value → H) (W : World) (t : TypeId) {α : Type} (R : World → List Value → α → Prop) (ok : α → Prop) (cod : α → List UInt8) : Prop :=
 ∀ fuel cs x, DataW.trod enc Tryz.prog W 0 (fun _ => true) true fuel t cs = some x → ∃ a, R W cs a ∧ ok a ∧ (cod a).length ≤ 20 * Rows.uptoBulk x.1
def intR (_ : World) (cs : List Value) (n : Int) : Prop := cs = [.int .i64 n]
def textR (_ : World) (cs : List Value) (s : List UInt8) : Prop := cs = [strB s]
def boolR (_ : World) (cs : List Value) (b : Bool) : Prop := cs = [.bool b]
def rowR {α : Type} (size : Nat) (R : World → List Value → α → Prop) (w : World) (cs : List Value) (l : List α) : Prop := ∃ v, cs = [v] ∧ RowV size 0 R w v l
theorem wf_i64 {n : Int} (h : (Lit.int .i64 n).wf = true) : I64 n := by
 have h1 : (decide ((-9223372036854775808 : Int) ≤ n) && decide (n ≤ 9223372036854775807)) = true := h
 rw [Bool.and_eq_true] at h1
 exact ⟨of_decide_eq_true h1.1, of_decide_eq_true h1.2⟩
section
variable {H : Type} {enc : TypeId × Value → H} {W : World}
theorem in_ {t : TypeId} (hu : Tryz.prog.underlying t = some (.int .i64)) : ht_ enc W t intR I64 intL := by
 intro fuel cs x hx
 obtain ⟨n, rfl, rfl, hw⟩ := DataW.trod_int hu hx
 have h := wf_i64 hw
 have h1 := fa_ n h
 have h2 := i3_ (DataW.lit (H := H) (.int .i64 n))
 exact ⟨n, rfl, h, by show (intL n).length ≤ 20 * Rows.uptoBulk (DataW.lit (H := H) (.int .i64 n)); omega⟩
theorem d9_ : ht_ enc W 3 intR I64 intL := in_ Tryz.underlying3
theorem pk_ : ht_ enc W 55 intR I64 intL := in_ Tryz.underlying55
theorem ff_ : ht_ enc W 9 textR g3_ bm_ := by
 intro fuel cs x hx
 obtain ⟨s, rfl, rfl, hw⟩ := DataW.trod_string Tryz.underlying9 hx
 have e : s.data.toList.length = s.size := rfl
 have hm : maxLen = 9223372036854775807 := rfl
 have h1 := b0_ (m := s.data.toList.length) (by omega)
 refine ⟨s.data.toList, rfl, ?_, ?_⟩
 · unfold g3_; omega
 · unfold bm_
   simp only [Rows.uptoBulk, List.length_append]
   omega
theorem so_ : ht_ enc W 4 boolR (fun _ => True) kk_ := by
 intro fuel cs x hx
 obtain ⟨b, rfl, rfl⟩ := DataW.trod_bool Tryz.underlying4 hx
 have h2 := i3_ (DataW.lit (H := H) (.bool b))
 have h1 := fa_ (if b then 1 else 0) (by unfold I64; split <;> omega)
 refine ⟨b, rfl, trivial, ?_⟩
 unfold kk_
 show _ ≤ 20 * Rows.uptoBulk (DataW.lit (H := H) (.bool b))
 omega
theorem np_ {α : Type} (cod : α → List UInt8) (V : Nat → α) (D : Nat → DataW H) : ∀ (xs : List Nat), (∀ i ∈ xs, (cod (V i)).length ≤ 20 * Rows.uptoBulk (D i)) → ((xs.map V).flatMap cod).length ≤ 20 * Rows.uptoBulkAll (xs.map D)
 | [], _ => by simp
 | x :: xs, h => by
  have h1 := h x (by simp)
  have h2 := np_ cod V D xs (fun i hi => h i (List.mem_cons_of_mem _ hi))
  simp only [List.map_cons, List.flatMap_cons, List.length_append, Rows.uptoBulkAll]
  omega
theorem gw_ {t e : TypeId} {α : Type} [Inhabited α] {R : World → List Value → α → Prop} {ok : α → Prop} {cod : α → List UInt8} {size : Nat} (hu : Tryz.prog.underlying t = some (.slice e)) (hc : Tryz.prog.cellsOf e = size) (hs : 0 < size) (h : ht_ enc W e R ok cod) :
 ht_ enc W t (rowR size R) (fun l => (∀ x ∈ l, ok x) ∧ l.length ≤ 9223372036854775807) (bz_ cod) := by
 intro fuel cs x hx
 rcases Deep.open_slice hu hx with ⟨rfl, rfl⟩ | ⟨a, len, cap, m, n, D, Pl, rfl, _, hl, hm, hmm, rfl, hel⟩
 · refine ⟨[], ⟨_, rfl, .inl ⟨rfl, _, _, rfl⟩⟩, ⟨fun x hx => by simp at hx, by simp⟩, ?_⟩
   have h1 := b0_ (m := 0) (by decide)
   have h2 := i3_ (DataW.nil (H := H))
   unfold bz_
   simp only [List.length_nil, List.flatMap_nil, List.append_nil]
   omega
 · have hmx : maxLen = 9223372036854775807 := rfl
   simp only [if_true] at hmm
   subst hmm
   rw [hc] at hel
   have each : ∀ i, i < len → ∃ y : α, (∃ cs', W.cells? 0 (a.add (i * size)) size = some cs' ∧ R W cs' y) ∧ ok y ∧ (cod y).length ≤ 20 * Rows.uptoBulk (D i) := by
    intro i hi
    obtain ⟨cs', h1, h2⟩ := hel i (by omega)
    obtain ⟨y, h3, h4, h5⟩ := h n cs' _ h2
    exact ⟨y, ⟨cs', h1, h3⟩, h4, h5⟩
   obtain ⟨V, hV⟩ := Deep.choose_lt each
   refine ⟨(List.range len).map V, ⟨_, rfl, ?_⟩, ⟨fun y hy => ?_, by simp; omega⟩, ?_⟩
   · by_cases h0 : len = 0
     · subst h0
       exact .inl ⟨by simp, _, _, rfl⟩
     · obtain ⟨g, o, spot⟩ := a
       have hspot : spot = none ∧ g < W.heap.size := by
        obtain ⟨⟨cs', h1, _⟩, _, _⟩ := hV 0 (by omega)
        obtain ⟨_, hlen, hcell⟩ := World.cells?_some h1
        have h2 := hcell 0 (by omega)
        rw [List.getElem?_eq_getElem (by omega)] at h2
        have h3 : (((⟨g, o, spot⟩ : Addr).add (0 * size)).add 0).spot = spot ∧ (((⟨g, o, spot⟩ : Addr).add (0 * size)).add 0).block = g := by
         unfold Addr.add
         cases spot <;> simp
        unfold World.cell? at h2
        rw [h3.2] at h2
        split at h2
        · rename_i c _ _ hb
          rw [h3.1] at h2
          cases spot with
          | none => exact ⟨rfl, lt_of_block hb⟩
          | some s => simp at h2
        · cases h2
       obtain ⟨rfl, hg⟩ := hspot
       refine .inr ⟨g, o, m, by simp, Nat.zero_le _, hg, fun i hi => ?_⟩
       have hi' : i < len := by simpa using hi
       obtain ⟨⟨cs', h1, h2⟩, _, _⟩ := hV i hi'
       refine ⟨cs', by simpa using h2, fun j v hj => ?_⟩
       obtain ⟨_, hlen, hcell⟩ := World.cells?_some h1
       have hj' := (List.getElem?_eq_some_iff.1 hj).1
       have h3 := hcell j (by omega)
       rw [hj, add_plain, add_plain] at h3
       exact h3
   · obtain ⟨i, hi, rfl⟩ := List.mem_map.1 hy
     exact (hV i (by simpa using hi)).2.1
   · have h1 := b0_ (m := len) (by omega)
     have h2 := np_ cod V D (List.range len) (fun i hi => (hV i (by simpa using hi)).2.2)
     unfold bz_
     simp only [Rows.uptoBulk, List.length_append, List.length_map, List.length_range]
     omega
theorem f9_ : Tryz.prog.cellsOf 3 = 1 := by kernel_rfl
theorem j9_ : Tryz.prog.cellsOf 9 = 1 := by kernel_rfl
theorem sp_ : Tryz.prog.cellsOf 4 = 1 := by kernel_rfl
theorem pl_ : Tryz.prog.cellsOf 55 = 1 := by kernel_rfl
theorem sq_ : Tryz.prog.cellsOf 68 = 16 := by kernel_rfl
theorem ka_ : Tryz.prog.cellsOf 70 = 17 := by kernel_rfl
theorem ih_ : Tryz.prog.cellsOf 67 = 2 := by kernel_rfl
theorem nq_ : Tryz.prog.cellsOf 84 = 5 := by kernel_rfl
theorem lb_ : Tryz.prog.cellsOf 88 = 7 := by kernel_rfl
theorem nr_ : Tryz.prog.cellsOf 73 = 22 := by kernel_rfl
theorem ns_ : Tryz.prog.cellsOf 65 = 2 := by kernel_rfl
theorem ss_ : Tryz.prog.cellsOf 27 = 4 := by kernel_rfl
theorem pm_ : Tryz.prog.cellsOf 22 = 1 := by kernel_rfl
theorem pn_ : Tryz.prog.cellsOf 23 = 1 := by kernel_rfl
theorem po_ : Tryz.prog.cellsOf 24 = 1 := by kernel_rfl
theorem pp_ : Tryz.prog.cellsOf 25 = 1 := by kernel_rfl
theorem pq_ : Tryz.prog.cellsOf 71 = 1 := by kernel_rfl
theorem v2_ : ht_ enc W 84 modR modOk modL := by
 intro fuel cs x hx
 obtain ⟨xs, n, _, rfl, hcl, hxl, hf⟩ := DataW.trod_struct Tryz.underlying84 hx
 rw [nq_] at hcl
 match cs, hcl with
 | [v0, v1, v2, v3, v4], _ =>
  have hx5 : xs.length = 5 := hxl
  match xs, hx5 with
  | [y0, y1, y2, y3, y4], _ =>
   obtain ⟨a0, e0, k0, l0⟩ := ff_ n _ _ (show DataW.trod enc Tryz.prog W 0 (fun _ => true) true n 9 (([v0, v1, v2, v3, v4].drop 0).take (Tryz.prog.cellsOf 9)) = some y0 from hf 0 _ rfl)
   obtain ⟨a1, e1, k1, l1⟩ := ff_ n _ _ (show DataW.trod enc Tryz.prog W 0 (fun _ => true) true n 9 (([v0, v1, v2, v3, v4].drop 1).take (Tryz.prog.cellsOf 9)) = some y1 from hf 1 _ rfl)
   obtain ⟨a2, e2, k2, l2⟩ := d9_ n _ _ (show DataW.trod enc Tryz.prog W 0 (fun _ => true) true n 3 (([v0, v1, v2, v3, v4].drop 2).take (Tryz.prog.cellsOf 3)) = some y2 from hf 2 _ rfl)
   obtain ⟨a3, e3, k3, l3⟩ := d9_ n _ _ (show DataW.trod enc Tryz.prog W 0 (fun _ => true) true n 3 (([v0, v1, v2, v3, v4].drop 3).take (Tryz.prog.cellsOf 3)) = some y3 from hf 3 _ rfl)
   obtain ⟨a4, e4, k4, l4⟩ := so_ n _ _ (show DataW.trod enc Tryz.prog W 0 (fun _ => true) true n 4 (([v0, v1, v2, v3, v4].drop 4).take (Tryz.prog.cellsOf 4)) = some y4 from hf 4 _ rfl)
   rw [j9_] at e0 e1; rw [f9_] at e2 e3; rw [sp_] at e4
   simp only [intR, textR, boolR, List.drop, List.take, List.cons.injEq, and_true] at e0 e1 e2 e3 e4
   subst e0 e1 e2 e3 e4
   refine ⟨(a0, a1, a2, a3, a4), rfl, ⟨k0, k1, k2, k3, trivial⟩, ?_⟩
   unfold modL
   simp only [List.map, Rows.uptoBulk, Rows.uptoBulkAll, List.length_append]
   omega
theorem lc_ : ht_ enc W 67 (fun _ cs (p : Int × Int) => cs = [.int .i64 p.1, .int .i64 p.2]) (fun p => I64 p.1 ∧ I64 p.2) (fun p => intL p.1 ++ intL p.2) := by
 intro fuel cs x hx
 obtain ⟨xs, n, _, rfl, hcl, hxl, hf⟩ := DataW.trod_struct Tryz.underlying67 hx
 rw [ih_] at hcl
 match cs, hcl with
 | [v0, v1], _ =>
  have hx5 : xs.length = 2 := hxl
  match xs, hx5 with
  | [y0, y1], _ =>
   obtain ⟨a0, e0, k0, l0⟩ := d9_ n _ _ (show DataW.trod enc Tryz.prog W 0 (fun _ => true) true n 3 (([v0, v1].drop 0).take (Tryz.prog.cellsOf 3)) = some y0 from hf 0 _ rfl)
   obtain ⟨a1, e1, k1, l1⟩ := d9_ n _ _ (show DataW.trod enc Tryz.prog W 0 (fun _ => true) true n 3 (([v0, v1].drop 1).take (Tryz.prog.cellsOf 3)) = some y1 from hf 1 _ rfl)
   rw [f9_] at e0 e1
   simp only [intR, List.drop, List.take, List.cons.injEq, and_true] at e0 e1
   subst e0 e1
   refine ⟨(a0, a1), rfl, ⟨k0, k1⟩, ?_⟩
   simp only [List.map, Rows.uptoBulk, Rows.uptoBulkAll, List.length_append]
   omega
theorem v3_ : ht_ enc W 65 chkR chkOk chkL := by
 intro fuel cs x hx
 obtain ⟨xs, n, _, rfl, hcl, hxl, hf⟩ := DataW.trod_struct Tryz.underlying65 hx
 rw [ns_] at hcl
 match cs, hcl with
 | [v0, v1], _ =>
  have hx5 : xs.length = 2 := hxl
  match xs, hx5 with
  | [y0, y1], _ =>
   obtain ⟨a0, e0, k0, l0⟩ := d9_ n _ _ (show DataW.trod enc Tryz.prog W 0 (fun _ => true) true n 3 (([v0, v1].drop 0).take (Tryz.prog.cellsOf 3)) = some y0 from hf 0 _ rfl)
   obtain ⟨a1, e1, k1, l1⟩ := ff_ n _ _ (show DataW.trod enc Tryz.prog W 0 (fun _ => true) true n 9 (([v0, v1].drop 1).take (Tryz.prog.cellsOf 9)) = some y1 from hf 1 _ rfl)
   rw [f9_] at e0; rw [j9_] at e1
   simp only [intR, textR, List.drop, List.take, List.cons.injEq, and_true] at e0 e1
   subst e0 e1
   refine ⟨(a0, a1), rfl, ⟨k0, k1⟩, ?_⟩
   unfold chkL
   simp only [List.map, Rows.uptoBulk, Rows.uptoBulkAll, List.length_append]
   omega
theorem v4_ : ht_ enc W 88 strR strOk strL := by
 intro fuel cs x hx
 obtain ⟨xs, n, _, rfl, hcl, hxl, hf⟩ := DataW.trod_struct Tryz.underlying88 hx
 rw [lb_] at hcl
 match cs, hcl with
 | [v0, v1, v2, v3, v4, v5, v6], _ =>
  have hx5 : xs.length = 6 := hxl
  match xs, hx5 with
  | [y0, y1, y2, y3, y4, y5], _ =>
   obtain ⟨a0, e0, k0, l0⟩ := d9_ n _ _ (show DataW.trod enc Tryz.prog W 0 (fun _ => true) true n 3 (([v0, v1, v2, v3, v4, v5, v6].drop 0).take (Tryz.prog.cellsOf 3)) = some y0 from hf 0 _ rfl)
   obtain ⟨a1, e1, k1, l1⟩ := ff_ n _ _ (show DataW.trod enc Tryz.prog W 0 (fun _ => true) true n 9 (([v0, v1, v2, v3, v4, v5, v6].drop 1).take (Tryz.prog.cellsOf 9)) = some y1 from hf 1 _ rfl)
   obtain ⟨a2, e2, k2, l2⟩ := ff_ n _ _ (show DataW.trod enc Tryz.prog W 0 (fun _ => true) true n 9 (([v0, v1, v2, v3, v4, v5, v6].drop 2).take (Tryz.prog.cellsOf 9)) = some y2 from hf 2 _ rfl)
   obtain ⟨a3, e3, k3, l3⟩ := ff_ n _ _ (show DataW.trod enc Tryz.prog W 0 (fun _ => true) true n 9 (([v0, v1, v2, v3, v4, v5, v6].drop 3).take (Tryz.prog.cellsOf 9)) = some y3 from hf 3 _ rfl)
   obtain ⟨a4, e4, k4, l4⟩ := d9_ n _ _ (show DataW.trod enc Tryz.prog W 0 (fun _ => true) true n 3 (([v0, v1, v2, v3, v4, v5, v6].drop 4).take (Tryz.prog.cellsOf 3)) = some y4 from hf 4 _ rfl)
   obtain ⟨⟨a5, a6⟩, e5, k5, l5⟩ := lc_ n _ _ (show DataW.trod enc Tryz.prog W 0 (fun _ => true) true n 67 (([v0, v1, v2, v3, v4, v5, v6].drop 5).take (Tryz.prog.cellsOf 67)) = some y5 from hf 5 _ rfl)
   rw [f9_] at e0 e4; rw [j9_] at e1 e2 e3; rw [ih_] at e5
   simp only [intR, textR, List.drop, List.take, List.cons.injEq, and_true] at e0 e1 e2 e3 e4 e5
   obtain ⟨e5, e6⟩ := e5
   subst e0 e1 e2 e3 e4 e5 e6
   refine ⟨(a0, a1, a2, a3, a4, a5, a6), rfl, ⟨k0, k1, k2, k3, k4, k5.1, k5.2⟩, ?_⟩
   unfold strL
   simp only [List.map, Rows.uptoBulk, Rows.uptoBulkAll, List.length_append] at l5 ⊢
   omega
theorem v5_ : ∀ (c : CpuD), (∀ n ∈ c, I64 n) → (Wire.cpuL c).length ≤ 10 * c.length
 | [], _ => by simp [Wire.cpuL]
 | n :: c, h => by
  have h1 := fa_ n (h n (by simp))
  have h2 := v5_ c (fun m hm => h m (List.mem_cons_of_mem _ hm))
  unfold Wire.cpuL at *
  simp only [List.flatMap_cons, List.length_append, List.length_cons]
  omega
theorem nt_ : ht_ enc W 70 cpuR cpuOk Wire.cpuL := by
 intro fuel cs x hx
 obtain ⟨xs, n, _, rfl, hcl, hxl, hf⟩ := DataW.trod_struct Tryz.underlying70 hx
 rw [ka_] at hcl
 have hx5 : xs.length = 2 := hxl
 match xs, hx5 with
 | [y0, y1], _ =>
  have h0 : DataW.trod enc Tryz.prog W 0 (fun _ => true) true n 68 ((cs.drop 0).take (Tryz.prog.cellsOf 68)) = some y0 := hf 0 _ rfl
  obtain ⟨a1, e1, k1, l1⟩ := d9_ n _ _ (show DataW.trod enc Tryz.prog W 0 (fun _ => true) true n 3 ((cs.drop 16).take (Tryz.prog.cellsOf 3)) = some y1 from hf 1 _ rfl)
  obtain ⟨zs, m, _, hy0, _, hzl, hz⟩ := DataW.trod_array Tryz.underlying68 h0
  rw [sq_, List.drop_zero] at hz
  rw [f9_] at e1 hz
  have each : ∀ i, i < 16 → ∃ q : Int, cs[i]? = some (.int .i64 q) ∧ I64 q := by
   intro i hi
   have h1 := hz i hi
   rw [List.getElem?_eq_getElem (by omega)] at h1
   obtain ⟨q, e, k, _⟩ := d9_ m _ _ h1
   have h2 : ((((cs.take 16).drop (i * 1)).take 1))[0]? = some (.int .i64 q) := by rw [e]; rfl
   rw [List.getElem?_take_of_lt (by omega), List.getElem?_drop, List.getElem?_take_of_lt (by omega)] at h2
   exact ⟨q, by simpa using h2, k⟩
  obtain ⟨V, hV⟩ := Deep.choose_lt each
  have hc : cs = ((List.range 16).map V ++ [a1]).map (Value.int .i64) := by
   apply List.ext_getElem?
   intro j
   by_cases h1 : j < 16
   · rw [(hV j h1).1, List.map_append, List.getElem?_append_left (by simpa using h1)]
     simp [h1]
   · by_cases h2 : j = 16
     · subst h2
       have h3 : ((cs.drop 16).take 1)[0]? = some (.int .i64 a1) := by rw [e1]; rfl
       rw [List.getElem?_take_of_lt (by omega), List.getElem?_drop] at h3
       rw [List.map_append, List.getElem?_append_right (by simp)]
       simpa using h3
     · rw [List.getElem?_eq_none (by omega), List.getElem?_eq_none (by simp; omega)]
  have hok : ∀ q ∈ (List.range 16).map V ++ [a1], I64 q := by
   intro q hq
   rcases List.mem_append.1 hq with hq | hq
   · obtain ⟨i, hi, rfl⟩ := List.mem_map.1 hq
     exact (hV i (by simpa using hi)).2
   · rw [List.mem_singleton] at hq
     rw [hq]; exact k1
  refine ⟨(List.range 16).map V ++ [a1], ⟨hc, by simp⟩, ⟨hok, by simp⟩, ?_⟩
  have h3 := v5_ _ hok
  have h4 : ((List.range 16).map V ++ [a1]).length = 17 := by simp
  rw [h4] at h3
  have h5 := pj_ (zs.map (·.1))
  rw [List.length_map, hzl] at h5
  rw [hy0]
  simp only [List.map, Rows.uptoBulk, Rows.uptoBulkAll]
  omega
theorem v6_ : ht_ enc W 73 (thrR 0) thrOk thrL := by
 intro fuel cs x hx
 obtain ⟨xs, n, _, rfl, hcl, hxl, hf⟩ := DataW.trod_struct Tryz.underlying73 hx
 rw [nr_] at hcl
 have hx5 : xs.length = 5 := hxl
 match xs, hx5 with
 | [y0, y1, y2, y3, y4], _ =>
  obtain ⟨a0, e0, k0, l0⟩ := nt_ n _ _ (show DataW.trod enc Tryz.prog W 0 (fun _ => true) true n 70 ((cs.drop 0).take (Tryz.prog.cellsOf 70)) = some y0 from hf 0 _ rfl)
  obtain ⟨a1, e1, k1, l1⟩ := d9_ n _ _ (show DataW.trod enc Tryz.prog W 0 (fun _ => true) true n 3 ((cs.drop 17).take (Tryz.prog.cellsOf 3)) = some y1 from hf 1 _ rfl)
  obtain ⟨a2, e2, k2, l2⟩ := pk_ n _ _ (show DataW.trod enc Tryz.prog W 0 (fun _ => true) true n 55 ((cs.drop 18).take (Tryz.prog.cellsOf 55)) = some y2 from hf 2 _ rfl)
  obtain ⟨⟨a3, a4⟩, e3, k3, l3⟩ := lc_ n _ _ (show DataW.trod enc Tryz.prog W 0 (fun _ => true) true n 67 ((cs.drop 19).take (Tryz.prog.cellsOf 67)) = some y3 from hf 3 _ rfl)
  obtain ⟨a5, ⟨v, e5, hv⟩, k5, l5⟩ := gw_ Tryz.underlying71 ka_ (by decide) nt_ n _ _ (show DataW.trod enc Tryz.prog W 0 (fun _ => true) true n 71 ((cs.drop 21).take (Tryz.prog.cellsOf 71)) = some y4 from hf 4 _ rfl)
  rw [ka_, List.drop_zero] at e0; rw [f9_] at e1; rw [pl_] at e2; rw [ih_] at e3; rw [pq_] at e5
  obtain ⟨e0, e0'⟩ := e0
  dsimp only [intR] at e1 e2 e3
  have hc : cs = cs.take 17 ++ ((cs.drop 17).take 1 ++ ((cs.drop 18).take 1 ++ ((cs.drop 19).take 2 ++ (cs.drop 21).take 1))) := by
   match cs, hcl with
   | [_, _, _, _, _, _, _, _, _, _, _, _, _, _, _, _, _, _, _, _, _, _], _ => rfl
  rw [e0, e1, e2, e3, e5] at hc
  refine ⟨(a0, a1, a2, a3, a4, a5), ⟨v, hc, e0', hv⟩, ⟨k0, k1, k2, k3.1, k3.2, k5⟩, ?_⟩
  unfold thrL
  simp only [List.map, Rows.uptoBulk, Rows.uptoBulkAll, List.length_append] at l3 ⊢
  omega
theorem st_ {t : TypeId} (ht : t = 27) : ht_ enc W t (fun w cs D => et_ 0 w (.agg cs.toArray) D) er_ cx_ := by
 subst ht
 intro fuel cs x hx
 obtain ⟨xs, n, _, rfl, hcl, hxl, hf⟩ := DataW.trod_struct Tryz.underlying27 hx
 rw [ss_] at hcl
 match cs, hcl with
 | [v0, v1, v2, v3], _ =>
  have hx5 : xs.length = 4 := hxl
  match xs, hx5 with
  | [y0, y1, y2, y3], _ =>
   obtain ⟨a0, ⟨u0, e0, h0⟩, k0, l0⟩ := gw_ Tryz.underlying22 nq_ (by decide) v2_ n _ _ (show DataW.trod enc Tryz.prog W 0 (fun _ => true) true n 22 (([v0, v1, v2, v3].drop 0).take (Tryz.prog.cellsOf 22)) = some y0 from hf 0 _ rfl)
   obtain ⟨a1, ⟨u1, e1, h1⟩, k1, l1⟩ := gw_ Tryz.underlying23 lb_ (by decide) v4_ n _ _ (show DataW.trod enc Tryz.prog W 0 (fun _ => true) true n 23 (([v0, v1, v2, v3].drop 1).take (Tryz.prog.cellsOf 23)) = some y1 from hf 1 _ rfl)
   obtain ⟨a2, ⟨u2, e2, h2⟩, k2, l2⟩ := gw_ Tryz.underlying24 nr_ (by decide) v6_ n _ _ (show DataW.trod enc Tryz.prog W 0 (fun _ => true) true n 24 (([v0, v1, v2, v3].drop 2).take (Tryz.prog.cellsOf 24)) = some y2 from hf 2 _ rfl)
   obtain ⟨a3, ⟨u3, e3, h3⟩, k3, l3⟩ := gw_ Tryz.underlying25 ns_ (by decide) v3_ n _ _ (show DataW.trod enc Tryz.prog W 0 (fun _ => true) true n 25 (([v0, v1, v2, v3].drop 3).take (Tryz.prog.cellsOf 25)) = some y3 from hf 3 _ rfl)
   rw [pm_] at e0; rw [pn_] at e1; rw [po_] at e2; rw [pp_] at e3
   simp only [List.drop, List.take, List.cons.injEq, and_true] at e0 e1 e2 e3
   subst e0 e1 e2 e3
   refine ⟨(a0, a1, a2, a3), ⟨_, _, _, _, rfl, h0, h1, h2, h3⟩, ⟨k0, k1, k2, k3⟩, ?_⟩
   unfold cx_
   simp only [List.map, Rows.uptoBulk, Rows.uptoBulkAll, List.length_append]
   omega
theorem nu_ {base : Nat} {v : Value} {d : DataW H} {ps : List MemPlace} (hv : Value.okWide Tryz.prog W .any base 27 v) (h : DataW.Trod enc Tryz.prog W 0 (fun _ => true) true 27 v d ps) :
 ∃ D, et_ 0 W v D ∧ er_ D ∧ (cx_ D).length ≤ 20 * Rows.uptoBulk d := by
 simp only [Value.okWide, Tryz.underlying27] at hv
 obtain ⟨cs, rfl, _, _⟩ := hv
 obtain ⟨fuel, hf⟩ := h
 obtain ⟨D, h1, h2, h3⟩ := st_ rfl fuel _ _ hf
 exact ⟨D, by simpa [Value.cells] using h1, h2, h3⟩
end
end
section
open Go.ChangeShapes Go.WideShapes Go.ChangeAt Go.WideElems Go.RowKit
theorem own : ownKnob Tryz.prog.godebug = none := by kernel_rfl
theorem pr_ : laidOutB Tryz.prog = true := by kernel_rfl
def i4_ : Array Value := #[.agg #[.slice none 0 0, .slice none 0 0, .slice none 0 0, .slice none 0 0], .agg #[.slice none 0 0, .slice none 0 0, .slice none 0 0, .slice none 0 0], .string ⟨#[]⟩]
theorem x0_ (os : Os) : laidMetH Tryz.prog Rows.dumpReadsUptoRow.laid ((World.doorLaid Tryz.prog 4000 os).forCall (fun _ _ => 0) ⟨#[], i4_, []⟩).memory :=
 laidMetH_of_parts3 (fuel := 8) (laidMet_of_run' 8 (by kernel_rfl) (by kernel_rfl)) (by kernel_rfl) (by kernel_rfl)
theorem of_list (A : ByteArray) : A = ⟨A.data.toList.toArray⟩ := by cases A; simp
theorem su_ (os : Os) {H : Type} (enc : TypeId × Value → H) : ∃ places, DataW.whole enc Tryz.prog ((World.doorLaid Tryz.prog 4000 os).forCall (fun _ _ => 0) ⟨#[], i4_, []⟩).memory Tryz.f3.params.toList Rows.dumpReadsSpec.vars false i4_.toList 8 = some ([.agg [.nil, .nil, .nil, .nil], .agg [.nil, .nil, .nil, .nil], .lit (.string [])], [], places) :=
 ⟨[], by kernel_rfl⟩
theorem kp_ (H : Type) (enc : TypeId × Value → H) (W : World) (base : Nat) (args : Array Value) (ds gs : List (DataW H)) (before : List MemPlace)
 (hval : ∀ (j : Nat) t v, Tryz.f3.params[j]? = some t → args[j]? = some v → Value.okWide Tryz.prog W .any base t v)
 (hW : DataW.Whole enc Tryz.prog Tryz.f3.params.toList Rows.dumpReadsSpec.vars false W args.toList ds gs before) (hc : Rows.uptoSmall H (ds ++ gs) = true) (hL : laidMetH Tryz.prog Rows.dumpReadsUptoRow.laid W) :
 Calls Tryz.prog 3 args W fun e W' => ∃ v, e = .returned v ∧ Rows.dumpReadsSpec.post enc Tryz.prog Tryz.f3 false true false false W args v W' := by
 have hW' := hW
 obtain ⟨p, q, hA0, hV, rfl, hfz, hnd⟩ := hW
 have hA : DataW.TrodAll enc Tryz.prog W 0 (fun _ => true) true Tryz.f3.params.toList args.toList ds p := hA0
 rw [Tryz.params3] at hA hval
 obtain ⟨v0, v1, v2, d0, d1, d2, p0, p1, p2, rfl, rfl, rfl, h0, h1, h2⟩ := trodAll_three hA
 obtain ⟨rfl, rfl⟩ := trodVars_none hV
 have hc' : Rows.uptoBulk d0 + (Rows.uptoBulk d1 + (Rows.uptoBulk d2 + 0)) ≤ 1048576 := of_decide_eq_true hc
 obtain ⟨D, hD, okD, lD⟩ := nu_ (hval 0 _ v0 rfl rfl) h0
 obtain ⟨E, hE, okE, lE⟩ := nu_ (hval 1 _ v1 rfl rfl) h1
 obtain ⟨S, rfl⟩ := okWide_string Tryz.underlying9 (hval 2 _ v2 rfl rfl)
 have hS : S.data.toList.length + 1 = Rows.uptoBulk d2 := by
  obtain ⟨fuel, hf⟩ := h2
  obtain ⟨s, h3, h4, _⟩ := DataW.trod_string Tryz.underlying9 hf
  have h5 : s = S := by simpa [Value.cells] using h3.symm
  have h6 := congrArg Prod.fst h4
  dsimp only at h6
  rw [h6, h5]
  rfl
 clear hA0 hval
 simp only [List.append_nil] at hW'
 have hlt : ∀ x ∈ p0 ++ p1 ++ p2, x.block < W.heap.size := fun x hx => by simpa using hW'.lt x hx
 obtain ⟨hF, hT⟩ := tables hL
 have hcall := xz_ q8_ vz_ D E okD okE (by omega) (by omega) S.data.toList (by omega) v0 v1 W hF hT hD hE
 rw [show strB S.data.toList = Value.string S by unfold strB; rw [← of_list]] at hcall
 refine hcall.mono fun e W' ⟨he, hb⟩ => ?_
 subst he
 refine ⟨_, rfl, _, _, _, [], p0 ++ (p1 ++ p2), [], hW', ?_, ?_, rfl, hb.frame _, fun h => by cases h⟩
 · exact trodAll_mk1 (shut_bool Tryz.underlying4 _)
 · exact trodAll_cons_mk (Below.trod pr_ (by kernel_rfl) (of_decide_eq_true (by kernel_rfl)) h0 hb (fun x hx => hlt x (by simp [hx])))
    (trodAll_cons_mk (Below.trod pr_ (by kernel_rfl) (of_decide_eq_true (by kernel_rfl)) h1 hb (fun x hx => hlt x (by simp [hx])))
      (trodAll_mk1 (Below.trod pr_ (by kernel_rfl) (of_decide_eq_true (by kernel_rfl)) h2 hb (fun x hx => hlt x (by simp [hx])))))
theorem nv_ (os : Os) (started : os.Started) (H : Type) (enc : TypeId × Value → H) (F : Stop.Interp) :
 ReturnsInHanded {} Tryz.checked os 3 .any ((Rows.OpenSpec.upto Rows.dumpReadsSpec).preRow enc Tryz.prog Tryz.f3 Rows.dumpReadsUptoRow.domain false Rows.dumpReadsUptoRow.laid) (((Rows.OpenSpec.upto Rows.dumpReadsSpec).at F).post enc Tryz.prog Tryz.f3 false true false false) := by
 obtain ⟨places, hx⟩ := su_ os enc
 refine returnsInHanded_of_row (C := Tryz.checked) (s := Rows.OpenSpec.upto Rows.dumpReadsSpec) own started (by kernel_rfl) Tryz.func3
  (witness_row_atRef (enc := enc) (C := Tryz.checked) false (World.doorLaid Tryz.prog 4000 os) i4_ rfl (by kernel_rfl) (by kernel_rfl) (by kernel_rfl)
    (OpenSpec.preRow_of_cond 8 hx (by kernel_rfl) (fun k hk => by cases hk; kernel_rfl) (by kernel_rfl) (x0_ os))) ?_
 intro W base args ds gs before hval hW _ hcond _ hL _ _
 exact kp_ H enc W base args ds gs before hval hW (hcond _ rfl) hL
end
end Go.Proofs.YtacaejpamidkcaaGreatDoor
