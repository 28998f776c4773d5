/- slices.Clone of ints. -/
import Derived.Lib.LazyBuf
import Derived.Test.YtacaejpamidkcaaGreatDoorR02
set_option linter.unusedVariables false
set_option linter.unusedSimpArgs false
set_option maxRecDepth 100000
namespace Go.Proofs.YtacaejpamidkcaaGreatDoor
section
open Go.RowKit
attribute [local go_sem] ak_ af_
theorem f2_ : (Tryz.prog.info? 3).map (fun i => (i.zero, i.size, i.bytes)) = some (some (.int .i64 0), 1, 8) := by kernel_rfl
theorem rf_ (g n cap : Nat) (xs : List Value) (w : World) (hc : ∀ j u, xs[j]? = some u → w.cell? ⟨g, j, none⟩ = some u) (hl : xs.length = n * 1) (h1 : ∀ u ∈ xs, u.oneCell' = true) (hn : 0 < n) (hm : n ≤ 2000000) (hg : g < w.heap.size) :
 Calls Tryz.prog 179 #[.slice (some ⟨g, 0, none⟩) n cap] w fun e w' => Below w.heap.size w w' ∧ ∃ g' cap', e = .returned (.slice (some ⟨g', 0, none⟩) n cap') ∧ w'.ownsRow w.heap.size 3 1 (.slice (some ⟨g', 0, none⟩) n cap') n xs := by
 obtain ⟨i0, hi, hz0, hz1, hz2⟩ := info_parts f2_
 have HC := h2_ hc h1
 clear hc h1
 have hen := fun (w : World) (a : Option Addr) (l c : Nat) => _root_.Go.run_eql_slice_nil (P := Tryz.prog) w 38 3 a l c Tryz.underlying38
 go_enter Tryz.func179, Tryz.ntmps179
 go_wp2_with (at_builtin; refine wpList_append_lies _ rfl _ _ _ rfl w.heap.size 3 i0 (.int .i64 0) 1 8 Tryz.underlying38 hi hz0 hz1 hz2 rfl (by omega) _ 0 [] rfl ?c0 ⟨g, 0, none⟩ n cap xs rfl (by omega) ?c1 HC.out.2 (by omega) ?c3 ?c4 ?c5 (w.heap.size + 1) (by simp) ?_)
 case c0 => exact ⟨rfl, .inr ⟨w.heap.size, 0, #[], rfl, Nat.le_refl _, heap_alloc_new w _, by decide, by decide, rfl, rfl⟩⟩
 case c1 =>
  intro j u hj
  rw [hx_]
  exact (((Below.refl w.heap.size w).alloc (Nat.le_refl _) _).cell (p := ⟨g, j, none⟩) hg).trans (HC.out.1 j u hj)
 case c3 => unfold maxLen; omega
 case c4 => omega
 case c5 => simp
 intro g1 cap1 w1 hown1 hgrow hat hlt1
 have HG := h4_ hown1 hgrow hat hlt1
 clear hown1 hgrow hat hlt1
 go_wp2
 go_ret
 obtain ⟨hown1, hgrow, hat, hlt1⟩ := HG.out
 refine ⟨((Below.refl _ _).alloc (Nat.le_refl _) _).grown hgrow (by simp) (fun k hk => by simp [Value.ownBlock] at hk; omega), g1, cap1, by simp, by simpa using hown1⟩
end
end Go.Proofs.YtacaejpamidkcaaGreatDoor
