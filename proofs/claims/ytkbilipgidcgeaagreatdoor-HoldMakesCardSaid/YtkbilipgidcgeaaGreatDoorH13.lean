/- Walks with unrolled loops; stores of function values; made slices of known length. -/
import Derived.Test.YtkbilipgidcgeaaGreatDoorProg
import Derived.BigGuardPart
import Derived.Handy
import Derived.WideLaws
import Derived.WalkLawsBesides
import Derived.WalkSpells
import Derived.Deep.RegionHeld3
import Derived.Deep.RegionLaw
import Derived.Deep.OwnRows
import Derived.Test.YtkbilipgidcgeaaGreatDoorH05
import Derived.Test.YtkbilipgidcgeaaGreatDoorH12
set_option linter.unusedVariables false
set_option linter.unusedSimpArgs false
namespace Go.Proofs.YtkbilipgidcgeaaGreatDoor
open Go.RowKit

section
variable {P : Program} {w : World} {a : Addr}
theorem run_store_func (f : Fn) (x c : Array Value) (m : Mode) : (store a (.func f x c) m).run P w = stored P w a (.func f x c) m := run_store P w a _ m rfl
end

theorem made_one (z : Value) (n : Nat) : madeCells #[z] n = (List.replicate n z).toArray := by
  apply Array.ext'
  simp only [madeCells, Array.toList_map, Array.toList_range, List.toList_toArray]
  apply List.ext_getElem
  · simp
  · intro i h1 h2
    simp [Nat.mod_one]

theorem mk_ints0 (w : World) : (Instr.makeSlice 31 (.int .i64 0) (.int .i64 0)).run Tryz.prog w = .ok (.slice (some ⟨w.heap.size, 0, none⟩) 0 0) (w.alloc (.cells #[] 3)) :=
  by simpa [made_one, List.replicate] using run_make_row' _ _ (.int .i64 0) 8 Tryz.underlying31 (by kernel_rfl) rfl .i64 .i64 0 (by omega) (by omega) w
theorem mk_ints1 (w : World) : (Instr.makeSlice 31 (.int .i64 1) (.int .i64 1)).run Tryz.prog w = .ok (.slice (some ⟨w.heap.size, 0, none⟩) 1 1) (w.alloc (.cells #[.int .i64 0] 3)) :=
  by simpa [made_one, List.replicate] using run_make_row' _ _ (.int .i64 0) 8 Tryz.underlying31 (by kernel_rfl) rfl .i64 .i64 1 (by omega) (by omega) w
theorem mk_ints2 (w : World) : (Instr.makeSlice 31 (.int .i64 2) (.int .i64 2)).run Tryz.prog w = .ok (.slice (some ⟨w.heap.size, 0, none⟩) 2 2) (w.alloc (.cells #[.int .i64 0, .int .i64 0] 3)) :=
  by simpa [made_one, List.replicate] using run_make_row' _ _ (.int .i64 0) 8 Tryz.underlying31 (by kernel_rfl) rfl .i64 .i64 2 (by omega) (by omega) w
theorem mk_lists0 (w : World) : (Instr.makeSlice 277 (.int .i64 0) (.int .i64 0)).run Tryz.prog w = .ok (.slice (some ⟨w.heap.size, 0, none⟩) 0 0) (w.alloc (.cells #[] 31)) :=
  by simpa [made_one, List.replicate] using run_make_row' _ _ (.slice none 0 0) 24 Tryz.underlying277 (by kernel_rfl) rfl .i64 .i64 0 (by omega) (by omega) w
theorem mk_lists1 (w : World) : (Instr.makeSlice 277 (.int .i64 1) (.int .i64 1)).run Tryz.prog w = .ok (.slice (some ⟨w.heap.size, 0, none⟩) 1 1) (w.alloc (.cells #[.slice none 0 0] 31)) :=
  by simpa [made_one, List.replicate] using run_make_row' _ _ (.slice none 0 0) 24 Tryz.underlying277 (by kernel_rfl) rfl .i64 .i64 1 (by omega) (by omega) w
theorem mk_lists2 (w : World) : (Instr.makeSlice 277 (.int .i64 2) (.int .i64 2)).run Tryz.prog w = .ok (.slice (some ⟨w.heap.size, 0, none⟩) 2 2) (w.alloc (.cells #[.slice none 0 0, .slice none 0 0] 31)) :=
  by simpa [made_one, List.replicate] using run_make_row' _ _ (.slice none 0 0) 24 Tryz.underlying277 (by kernel_rfl) rfl .i64 .i64 2 (by omega) (by omega) w
end Go.Proofs.YtkbilipgidcgeaaGreatDoor
