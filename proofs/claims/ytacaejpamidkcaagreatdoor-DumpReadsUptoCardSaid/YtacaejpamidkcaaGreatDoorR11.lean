/- Walks with unrolled loops; stores of function values; made slices of known length. -/
import Derived.Deep.OwnRows
import Derived.Test.YtacaejpamidkcaaGreatDoorR10
set_option linter.unusedVariables false
set_option linter.unusedSimpArgs false
namespace Go.Proofs.YtacaejpamidkcaaGreatDoor
section
open Go.RowKit
section
variable {P : Program} {w : World} {a : Addr}
theorem aq_ (f : Fn) (x c : Array Value) (m : Mode) : (store a (.func f x c) m).run P w = stored P w a (.func f x c) m := run_store P w a _ m rfl
end
theorem fu_ (z : Value) (n : Nat) : madeCells #[z] n = (List.replicate n z).toArray := by
 apply Array.ext'
 simp only [madeCells, Array.toList_map, Array.toList_range, List.toList_toArray]
 apply List.ext_getElem
 · simp
 · intro i h1 h2
   simp [Nat.mod_one]
theorem be_ (w : World) : (Instr.makeSlice 38 (.int .i64 0) (.int .i64 0)).run Tryz.prog w = .ok (.slice (some ⟨w.heap.size, 0, none⟩) 0 0) (w.alloc (.cells #[] 3)) :=
 by simpa [fu_, List.replicate] using run_make_row' _ _ (.int .i64 0) 8 Tryz.underlying38 (by kernel_rfl) rfl .i64 .i64 0 (by omega) (by omega) w
theorem bf_ (w : World) : (Instr.makeSlice 38 (.int .i64 1) (.int .i64 1)).run Tryz.prog w = .ok (.slice (some ⟨w.heap.size, 0, none⟩) 1 1) (w.alloc (.cells #[.int .i64 0] 3)) :=
 by simpa [fu_, List.replicate] using run_make_row' _ _ (.int .i64 0) 8 Tryz.underlying38 (by kernel_rfl) rfl .i64 .i64 1 (by omega) (by omega) w
theorem bg_ (w : World) : (Instr.makeSlice 38 (.int .i64 2) (.int .i64 2)).run Tryz.prog w = .ok (.slice (some ⟨w.heap.size, 0, none⟩) 2 2) (w.alloc (.cells #[.int .i64 0, .int .i64 0] 3)) :=
 by simpa [fu_, List.replicate] using run_make_row' _ _ (.int .i64 0) 8 Tryz.underlying38 (by kernel_rfl) rfl .i64 .i64 2 (by omega) (by omega) w
theorem a6_ (w : World) : (Instr.makeSlice 297 (.int .i64 0) (.int .i64 0)).run Tryz.prog w = .ok (.slice (some ⟨w.heap.size, 0, none⟩) 0 0) (w.alloc (.cells #[] 38)) :=
 by simpa [fu_, List.replicate] using run_make_row' _ _ (.slice none 0 0) 24 Tryz.underlying297 (by kernel_rfl) rfl .i64 .i64 0 (by omega) (by omega) w
theorem a7_ (w : World) : (Instr.makeSlice 297 (.int .i64 1) (.int .i64 1)).run Tryz.prog w = .ok (.slice (some ⟨w.heap.size, 0, none⟩) 1 1) (w.alloc (.cells #[.slice none 0 0] 38)) :=
 by simpa [fu_, List.replicate] using run_make_row' _ _ (.slice none 0 0) 24 Tryz.underlying297 (by kernel_rfl) rfl .i64 .i64 1 (by omega) (by omega) w
theorem a8_ (w : World) : (Instr.makeSlice 297 (.int .i64 2) (.int .i64 2)).run Tryz.prog w = .ok (.slice (some ⟨w.heap.size, 0, none⟩) 2 2) (w.alloc (.cells #[.slice none 0 0, .slice none 0 0] 38)) :=
 by simpa [fu_, List.replicate] using run_make_row' _ _ (.slice none 0 0) 24 Tryz.underlying297 (by kernel_rfl) rfl .i64 .i64 2 (by omega) (by omega) w
end
end Go.Proofs.YtacaejpamidkcaaGreatDoor
