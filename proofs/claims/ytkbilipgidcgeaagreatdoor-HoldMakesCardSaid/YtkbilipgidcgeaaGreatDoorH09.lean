/- slices.Clone. -/
import Derived.Deep.AppendLies
import Derived.Lib.LazyBuf
import Derived.Test.YtkbilipgidcgeaaGreatDoorH05
import Derived.Test.YtkbilipgidcgeaaGreatDoorH01
set_option linter.unusedVariables false
set_option linter.unusedSimpArgs false
namespace Go.Proofs.YtkbilipgidcgeaaGreatDoor
open Go.RowKit

attribute [local go_sem] ext_cell ext_frozen

theorem infoc_parts : (Tryz.prog.info? 107).map (fun i => (i.zero, i.size, i.bytes)) = some (some (.agg #[.int .i64 0, .int .i64 0, .int .i64 0, .int .i64 0, .int .i64 0, .slice none 0 0]), 6, 64) := by kernel_rfl

set_option maxRecDepth 100000 in
theorem clone_parts_nil (w : World) : Calls Tryz.prog 76 #[.slice none 0 0] w fun e w' => e = .returned (.slice none 0 0) ∧ w' = w := by
  have hen := fun (w : World) (a : Option Addr) (l c : Nat) => _root_.Go.run_eql_slice_nil (P := Tryz.prog) w 139 107 a l c Tryz.underlying139
  go_enter Tryz.func76, Tryz.ntmps76
  go_wp2
  go_ret
  exact ⟨rfl, rfl⟩

set_option maxRecDepth 100000 in
theorem clone_parts (g n cap : Nat) (xs : List Value) (w : World) (hc : ∀ j u, xs[j]? = some u → w.cell? ⟨g, j, none⟩ = some u) (hl : xs.length = n * 6) (h1 : ∀ u ∈ xs, u.oneCell' = true) (hn : 0 < n) (hm : n ≤ 2000000) (hg : g < w.heap.size) :
    Calls Tryz.prog 76 #[.slice (some ⟨g, 0, none⟩) n cap] w fun e w' => Below w.heap.size w w' ∧ ∃ g' cap', e = .returned (.slice (some ⟨g', 0, none⟩) n cap') ∧ w'.ownsRow w.heap.size 107 6 (.slice (some ⟨g', 0, none⟩) n cap') n xs := by
  obtain ⟨i0, hi, hz0, hz1, hz2⟩ := info_parts infoc_parts
  have HC := Lib.hid (And.intro hc h1)
  clear hc h1
  have hen := fun (w : World) (a : Option Addr) (l c : Nat) => _root_.Go.run_eql_slice_nil (P := Tryz.prog) w 139 107 a l c Tryz.underlying139
  go_enter Tryz.func76, Tryz.ntmps76
  go_wp2_with (at_builtin; refine wpList_append_lies _ rfl _ _ _ rfl w.heap.size 107 i0 (.agg #[.int .i64 0, .int .i64 0, .int .i64 0, .int .i64 0, .int .i64 0, .slice none 0 0]) 6 64 Tryz.underlying139 hi hz0 hz1 hz2 rfl (by omega) _ 0 [] rfl ?c0 ⟨g, 0, none⟩ n cap xs rfl (by omega) ?c1 HC.out.2 (by omega) ?c3 ?c4 ?c5 (w.heap.size + 1) (by simp) ?_)
  case c0 => exact ⟨rfl, .inr ⟨w.heap.size, 0, #[], rfl, Nat.le_refl _, heap_alloc_new w _, by decide, by decide, rfl, rfl⟩⟩
  case c1 =>
    intro j u hj
    rw [addr0]
    exact (((Below.refl w.heap.size w).alloc (Nat.le_refl _) _).cell (p := ⟨g, j, none⟩) hg).trans (HC.out.1 j u hj)
  case c3 => unfold maxLen; omega
  case c4 => omega
  case c5 => simp
  intro g1 cap1 w1 hown1 hgrow hat hlt1
  have HG := Lib.hid (And.intro hown1 (And.intro hgrow (And.intro hat hlt1)))
  clear hown1 hgrow hat hlt1
  go_wp2
  go_ret
  obtain ⟨hown1, hgrow, hat, hlt1⟩ := HG.out
  refine ⟨((Below.refl _ _).alloc (Nat.le_refl _) _).grown hgrow (by simp) (fun k hk => by simp [Value.ownBlock] at hk; omega), g1, cap1, by simp, by simpa using hown1⟩

theorem infoc_bytes : (Tryz.prog.info? 5).map (fun i => (i.zero, i.size, i.bytes)) = some (some (.int .u8 0), 1, 1) := by kernel_rfl

set_option maxRecDepth 100000 in
theorem clone_bytes_nil (w : World) : Calls Tryz.prog 77 #[.slice none 0 0] w fun e w' => e = .returned (.slice none 0 0) ∧ w' = w := by
  have hen := fun (w : World) (a : Option Addr) (l c : Nat) => _root_.Go.run_eql_slice_nil (P := Tryz.prog) w 76 5 a l c Tryz.underlying76
  go_enter Tryz.func77, Tryz.ntmps77
  go_wp2
  go_ret
  exact ⟨rfl, rfl⟩

set_option maxRecDepth 100000 in
theorem clone_bytes (g n cap : Nat) (xs : List Value) (w : World) (hc : ∀ j u, xs[j]? = some u → w.cell? ⟨g, j, none⟩ = some u) (hl : xs.length = n * 1) (h1 : ∀ u ∈ xs, u.oneCell' = true) (hn : 0 < n) (hm : n ≤ 2000000) (hg : g < w.heap.size) :
    Calls Tryz.prog 77 #[.slice (some ⟨g, 0, none⟩) n cap] w fun e w' => Below w.heap.size w w' ∧ ∃ g' cap', e = .returned (.slice (some ⟨g', 0, none⟩) n cap') ∧ w'.ownsRow w.heap.size 5 1 (.slice (some ⟨g', 0, none⟩) n cap') n xs := by
  obtain ⟨i0, hi, hz0, hz1, hz2⟩ := info_parts infoc_bytes
  have HC := Lib.hid (And.intro hc h1)
  clear hc h1
  have hen := fun (w : World) (a : Option Addr) (l c : Nat) => _root_.Go.run_eql_slice_nil (P := Tryz.prog) w 76 5 a l c Tryz.underlying76
  go_enter Tryz.func77, Tryz.ntmps77
  go_wp2_with (at_builtin; refine wpList_append_lies _ rfl _ _ _ rfl w.heap.size 5 i0 (.int .u8 0) 1 1 Tryz.underlying76 hi hz0 hz1 hz2 rfl (by omega) _ 0 [] rfl ?c0 ⟨g, 0, none⟩ n cap xs rfl (by omega) ?c1 HC.out.2 (by omega) ?c3 ?c4 ?c5 (w.heap.size + 1) (by simp) ?_)
  case c0 => exact ⟨rfl, .inr ⟨w.heap.size, 0, #[], rfl, Nat.le_refl _, heap_alloc_new w _, by decide, by decide, rfl, rfl⟩⟩
  case c1 =>
    intro j u hj
    rw [addr0]
    exact (((Below.refl w.heap.size w).alloc (Nat.le_refl _) _).cell (p := ⟨g, j, none⟩) hg).trans (HC.out.1 j u hj)
  case c3 => unfold maxLen; omega
  case c4 => omega
  case c5 => simp
  intro g1 cap1 w1 hown1 hgrow hat hlt1
  have HG := Lib.hid (And.intro hown1 (And.intro hgrow (And.intro hat hlt1)))
  clear hown1 hgrow hat hlt1
  go_wp2
  go_ret
  obtain ⟨hown1, hgrow, hat, hlt1⟩ := HG.out
  refine ⟨((Below.refl _ _).alloc (Nat.le_refl _) _).grown hgrow (by simp) (fun k hk => by simp [Value.ownBlock] at hk; omega), g1, cap1, by simp, by simpa using hown1⟩

theorem infoc_ints : (Tryz.prog.info? 3).map (fun i => (i.zero, i.size, i.bytes)) = some (some (.int .i64 0), 1, 8) := by kernel_rfl

set_option maxRecDepth 100000 in
theorem clone_ints_nil (w : World) : Calls Tryz.prog 100 #[.slice none 0 0] w fun e w' => e = .returned (.slice none 0 0) ∧ w' = w := by
  have hen := fun (w : World) (a : Option Addr) (l c : Nat) => _root_.Go.run_eql_slice_nil (P := Tryz.prog) w 31 3 a l c Tryz.underlying31
  go_enter Tryz.func100, Tryz.ntmps100
  go_wp2
  go_ret
  exact ⟨rfl, rfl⟩

set_option maxRecDepth 100000 in
theorem clone_ints (g n cap : Nat) (xs : List Value) (w : World) (hc : ∀ j u, xs[j]? = some u → w.cell? ⟨g, j, none⟩ = some u) (hl : xs.length = n * 1) (h1 : ∀ u ∈ xs, u.oneCell' = true) (hn : 0 < n) (hm : n ≤ 2000000) (hg : g < w.heap.size) :
    Calls Tryz.prog 100 #[.slice (some ⟨g, 0, none⟩) n cap] w fun e w' => Below w.heap.size w w' ∧ ∃ g' cap', e = .returned (.slice (some ⟨g', 0, none⟩) n cap') ∧ w'.ownsRow w.heap.size 3 1 (.slice (some ⟨g', 0, none⟩) n cap') n xs := by
  obtain ⟨i0, hi, hz0, hz1, hz2⟩ := info_parts infoc_ints
  have HC := Lib.hid (And.intro hc h1)
  clear hc h1
  have hen := fun (w : World) (a : Option Addr) (l c : Nat) => _root_.Go.run_eql_slice_nil (P := Tryz.prog) w 31 3 a l c Tryz.underlying31
  go_enter Tryz.func100, Tryz.ntmps100
  go_wp2_with (at_builtin; refine wpList_append_lies _ rfl _ _ _ rfl w.heap.size 3 i0 (.int .i64 0) 1 8 Tryz.underlying31 hi hz0 hz1 hz2 rfl (by omega) _ 0 [] rfl ?c0 ⟨g, 0, none⟩ n cap xs rfl (by omega) ?c1 HC.out.2 (by omega) ?c3 ?c4 ?c5 (w.heap.size + 1) (by simp) ?_)
  case c0 => exact ⟨rfl, .inr ⟨w.heap.size, 0, #[], rfl, Nat.le_refl _, heap_alloc_new w _, by decide, by decide, rfl, rfl⟩⟩
  case c1 =>
    intro j u hj
    rw [addr0]
    exact (((Below.refl w.heap.size w).alloc (Nat.le_refl _) _).cell (p := ⟨g, j, none⟩) hg).trans (HC.out.1 j u hj)
  case c3 => unfold maxLen; omega
  case c4 => omega
  case c5 => simp
  intro g1 cap1 w1 hown1 hgrow hat hlt1
  have HG := Lib.hid (And.intro hown1 (And.intro hgrow (And.intro hat hlt1)))
  clear hown1 hgrow hat hlt1
  go_wp2
  go_ret
  obtain ⟨hown1, hgrow, hat, hlt1⟩ := HG.out
  refine ⟨((Below.refl _ _).alloc (Nat.le_refl _) _).grown hgrow (by simp) (fun k hk => by simp [Value.ownBlock] at hk; omega), g1, cap1, by simp, by simpa using hown1⟩

end Go.Proofs.YtkbilipgidcgeaaGreatDoor
