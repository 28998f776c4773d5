/- proc: New. maps.Clone. -/
import Derived.Test.YtkbilipgidcgeaaGreatDoorW25
import Derived.Laws.Externs
import Derived.WalkSpells
set_option linter.unusedVariables false
set_option linter.unusedSimpArgs false
namespace Go.Proofs.YtkbilipgidcgeaaGreatDoor
open Go.RowKit Go.ChangeMaps
attribute [local go_sem] ext_cell ext_frozen run_store_func mk_ints0 mk_ints1 mk_ints2 mk_lists0 mk_lists1 mk_lists2 ta_ints run_makeMap
attribute [local irreducible] labCells modC
attribute [local go_sem] labGet0 labGet1 labGet2 labGet3 labGet4 labGet5 labGet6 labGet7 labGet8 labGet9 labGet10 labGet11 labGet12 labGet13 labGet14 labGet15 labGet16 labGet17 labGet18 labGet19 labGet20 labGet21 labGet22 labGet23 labGet24 labGet25

theorem block_at {w : World} {k : Nat} {o : Obj} (h : w.heap.size = k) : (w.alloc o).heap[k]? = some o := by subst h; exact heap_alloc_new w o

theorem modC_get16 (B : ByteArray) (x y : Int) : (modC B x y)[(16 : Nat)]? = some (.int .i64 0) := modC_img B x y 16 _ (by unfold labCells; rfl)

/-- The numbers of a process. -/
structure PN where
  p : Nat
  s : Nat
  b : Nat
  l : Nat
  st : Nat
  mo : Nat
  th : Nat
  at_ : Nat
  gm : Nat
  cm : Nat
  gq : Nat
  cq : Nat
  gt : Nat
  ct : Nat
  gc : Nat
  cc : Nat
  g : Nat
  cap : Nat
  b1 : Nat
  b2 : Nat
  b3 : Nat

/-- A process, but for its memory. -/
structure ProcAt (B : ByteArray) (w : World) (n : PN) : Prop where
  head : w.heap[n.p]? = some (.cells (procC n.s n.b n.l (.slice (some ⟨n.gt, 0, none⟩) 1 n.ct)).toArray 81 (0, 0))
  load : w.heap[n.l]? = some (.cells (loaderC n.s n.b n.st (.slice (some ⟨n.gm, 0, none⟩) 1 n.cm) (.slice (some ⟨n.gq, 0, none⟩) 1 n.cq)).toArray 149 (0, 0))
  mods : w.ownsRow 0 91 32 (.slice (some ⟨n.gm, 0, none⟩) 1 n.cm) 1 (modC B 512 1)
  order : w.ownsRow 0 3 1 (.slice (some ⟨n.gq, 0, none⟩) 1 n.cq) 1 [.int .i64 0]
  blocks : w.heap[n.b]? = some (.cells (blocksC n.s n.mo n.th n.at_).toArray 146 (0, 0))
  known : w.heap[n.mo]? = some (.map #[⟨.int .i64 0, .agg (labCells B), 0⟩] 1)
  thrs : w.heap[n.th]? = some (.map #[⟨.int .i64 0, .bool true, 0⟩] 1)
  ats : w.heap[n.at_]? = some (.map #[] 0)
  store : w.heap[n.st]? = some (.map #[⟨.string labS, .agg (labCells B), 0⟩] 1)
  thread : w.ownsRow 0 100 23 (.slice (some ⟨n.gt, 0, none⟩) 1 n.ct) 1 (threadC 2304 (.slice (some ⟨n.gc, 0, none⟩) 1 n.cc))
  calls : w.ownsRow 0 3 1 (.slice (some ⟨n.gc, 0, none⟩) 1 n.cc) 1 [.int .i64 512]

def partsL (L D : List UInt8) (n : PN) (S : List UInt8) : List Part := [codeP L n.b1, { newPart 768 256 1 0 0 n.b2 with data := D }, { newPart 1280 1024 2 0 0 n.b3 with data := S }]


end Go.Proofs.YtkbilipgidcgeaaGreatDoor

namespace Go.Proofs.YtkbilipgidcgeaaGreatDoor
open Go.RowKit Go.ChangeMaps
theorem run_typeAssert_map {P : Program} (w : World) (t xT k e : TypeId) (v : Value) (h : P.underlying t = some (.map k e)) : (Instr.typeAssert (.iface t v) xT t false).run P w = .ok v w := by
  simp [Instr.typeAssert, run_underlying h, go_sem, Result.andThen]

set_option maxRecDepth 100000 in
theorem mclone_mods (b c : Nat) (es : Array MapEntry) (w : World) (hb : w.heap[b]? = some (.map es c)) : Calls Tryz.prog 96 #[.map (some b)] w fun e w' => e = .returned (.map (some w.heap.size)) ∧ Below w.heap.size w w' := by
  have hc := map_clone (P := Tryz.prog) (t := 142) hb
  have hx : (callFunc 184 #[.iface 142 (.map (some b))]).run Tryz.prog w = .ok (.value (.iface 142 (.map (some w.heap.size)))) (w.alloc (.map es c)) := by
    rw [run_callFunc_extern Tryz.func184 (by kernel_rfl) (by kernel_rfl) (by kernel_rfl) (e := Extern.MapsClone.clone) (by kernel_rfl), hc]; rfl
  have hy := fun xT => run_typeAssert_map (P := Tryz.prog) (w.alloc (.map es c)) 142 xT _ _ (.map (some w.heap.size)) Tryz.underlying142
  clear hb hc
  have q0 := run_eql_map_nil (P := Tryz.prog) w _ _ _ (some b) Tryz.underlying142
  go_enter Tryz.func96, Tryz.ntmps96
  go_wp2
  go_ret
  exact ⟨rfl, by go_grown⟩

set_option maxRecDepth 100000 in
theorem mclone_thrs (b c : Nat) (es : Array MapEntry) (w : World) (hb : w.heap[b]? = some (.map es c)) : Calls Tryz.prog 97 #[.map (some b)] w fun e w' => e = .returned (.map (some w.heap.size)) ∧ Below w.heap.size w w' := by
  have hc := map_clone (P := Tryz.prog) (t := 143) hb
  have hx : (callFunc 184 #[.iface 143 (.map (some b))]).run Tryz.prog w = .ok (.value (.iface 143 (.map (some w.heap.size)))) (w.alloc (.map es c)) := by
    rw [run_callFunc_extern Tryz.func184 (by kernel_rfl) (by kernel_rfl) (by kernel_rfl) (e := Extern.MapsClone.clone) (by kernel_rfl), hc]; rfl
  have hy := fun xT => run_typeAssert_map (P := Tryz.prog) (w.alloc (.map es c)) 143 xT _ _ (.map (some w.heap.size)) Tryz.underlying143
  clear hb hc
  have q0 := run_eql_map_nil (P := Tryz.prog) w _ _ _ (some b) Tryz.underlying143
  go_enter Tryz.func97, Tryz.ntmps97
  go_wp2
  go_ret
  exact ⟨rfl, by go_grown⟩

set_option maxRecDepth 100000 in
theorem mclone_pairs (b c : Nat) (es : Array MapEntry) (w : World) (hb : w.heap[b]? = some (.map es c)) : Calls Tryz.prog 98 #[.map (some b)] w fun e w' => e = .returned (.map (some w.heap.size)) ∧ Below w.heap.size w w' := by
  have hc := map_clone (P := Tryz.prog) (t := 144) hb
  have hx : (callFunc 184 #[.iface 144 (.map (some b))]).run Tryz.prog w = .ok (.value (.iface 144 (.map (some w.heap.size)))) (w.alloc (.map es c)) := by
    rw [run_callFunc_extern Tryz.func184 (by kernel_rfl) (by kernel_rfl) (by kernel_rfl) (e := Extern.MapsClone.clone) (by kernel_rfl), hc]; rfl
  have hy := fun xT => run_typeAssert_map (P := Tryz.prog) (w.alloc (.map es c)) 144 xT _ _ (.map (some w.heap.size)) Tryz.underlying144
  clear hb hc
  have q0 := run_eql_map_nil (P := Tryz.prog) w _ _ _ (some b) Tryz.underlying144
  go_enter Tryz.func98, Tryz.ntmps98
  go_wp2
  go_ret
  exact ⟨rfl, by go_grown⟩

set_option maxRecDepth 100000 in
theorem mclone_store (b c : Nat) (es : Array MapEntry) (w : World) (hb : w.heap[b]? = some (.map es c)) : Calls Tryz.prog 99 #[.map (some b)] w fun e w' => e = .returned (.map (some w.heap.size)) ∧ Below w.heap.size w w' := by
  have hc := map_clone (P := Tryz.prog) (t := 147) hb
  have hx : (callFunc 184 #[.iface 147 (.map (some b))]).run Tryz.prog w = .ok (.value (.iface 147 (.map (some w.heap.size)))) (w.alloc (.map es c)) := by
    rw [run_callFunc_extern Tryz.func184 (by kernel_rfl) (by kernel_rfl) (by kernel_rfl) (e := Extern.MapsClone.clone) (by kernel_rfl), hc]; rfl
  have hy := fun xT => run_typeAssert_map (P := Tryz.prog) (w.alloc (.map es c)) 147 xT _ _ (.map (some w.heap.size)) Tryz.underlying147
  clear hb hc
  have q0 := run_eql_map_nil (P := Tryz.prog) w _ _ _ (some b) Tryz.underlying147
  go_enter Tryz.func99, Tryz.ntmps99
  go_wp2
  go_ret
  exact ⟨rfl, by go_grown⟩
end Go.Proofs.YtkbilipgidcgeaaGreatDoor
