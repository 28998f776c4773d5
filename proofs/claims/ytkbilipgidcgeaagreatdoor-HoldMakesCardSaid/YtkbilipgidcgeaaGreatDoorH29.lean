/- proc: New. -/
import Derived.Test.YtkbilipgidcgeaaGreatDoorH28
set_option linter.unusedVariables false
set_option linter.unusedSimpArgs false
namespace Go.Proofs.YtkbilipgidcgeaaGreatDoor.Tiny
open Go.RowKit Go.ChangeMaps
attribute [local go_sem] ext_cell ext_frozen run_store_func mk_ints0 mk_ints1 mk_ints2 mk_lists0 mk_lists1 mk_lists2 ta_ints run_makeMap
attribute [local irreducible] labCells modC
attribute [local go_sem] labGet0 labGet1 labGet2 labGet3 labGet4 labGet5 labGet6 labGet7 labGet8 labGet9 labGet10 labGet11 labGet12 labGet13 labGet14 labGet15 labGet16 labGet17 labGet18 labGet19 labGet20 labGet21 labGet22 labGet23 labGet24 labGet25

theorem block_at {w : World} {k : Nat} {o : Obj} (h : w.heap.size = k) : (w.alloc o).heap[k]? = some o := by subst h; exact heap_alloc_new w o

theorem modC_get16 (B : ByteArray) (x y : Int) : (modC B x y)[(16 : Nat)]? = some (.int .i64 0) := modC_img B x y 16 _ (by unfold labCells; rfl)

/-- The numbers of a process. -/
structure PN where
  p : Nat
  s : Nat
  b : Nat
  l : Nat
  st : Nat
  mo : Nat
  th : Nat
  at_ : Nat
  gm : Nat
  cm : Nat
  gq : Nat
  cq : Nat
  gt : Nat
  ct : Nat
  gc : Nat
  cc : Nat
  g : Nat
  cap : Nat
  b1 : Nat
  b2 : Nat
  b3 : Nat

/-- A process, but for its memory. -/
structure ProcAt (B : ByteArray) (w : World) (n : PN) : Prop where
  head : w.heap[n.p]? = some (.cells (procC n.s n.b n.l (.slice (some ⟨n.gt, 0, none⟩) 1 n.ct)).toArray 81 (0, 0))
  load : w.heap[n.l]? = some (.cells (loaderC n.s n.b n.st (.slice (some ⟨n.gm, 0, none⟩) 1 n.cm) (.slice (some ⟨n.gq, 0, none⟩) 1 n.cq)).toArray 149 (0, 0))
  mods : w.ownsRow 0 91 32 (.slice (some ⟨n.gm, 0, none⟩) 1 n.cm) 1 (modC B 512 1)
  order : w.ownsRow 0 3 1 (.slice (some ⟨n.gq, 0, none⟩) 1 n.cq) 1 [.int .i64 0]
  blocks : w.heap[n.b]? = some (.cells (blocksC n.s n.mo n.th n.at_).toArray 146 (0, 0))
  known : w.heap[n.mo]? = some (.map #[⟨.int .i64 0, .agg (labCells B), 0⟩] 1)
  thrs : w.heap[n.th]? = some (.map #[⟨.int .i64 0, .bool true, 0⟩] 1)
  ats : w.heap[n.at_]? = some (.map #[] 0)
  store : w.heap[n.st]? = some (.map #[⟨.string labS, .agg (labCells B), 0⟩] 1)
  thread : w.ownsRow 0 100 23 (.slice (some ⟨n.gt, 0, none⟩) 1 n.ct) 1 (threadC 2304 (.slice (some ⟨n.gc, 0, none⟩) 1 n.cc))
  calls : w.ownsRow 0 3 1 (.slice (some ⟨n.gc, 0, none⟩) 1 n.cc) 1 [.int .i64 512]

def partsL (L D : List UInt8) (n : PN) (S : List UInt8) : List Part := [codeP L n.b1, { newPart 768 256 1 0 0 n.b2 with data := D }, { newPart 1280 1024 2 0 0 n.b3 with data := S }]


end Go.Proofs.YtkbilipgidcgeaaGreatDoor.Tiny
