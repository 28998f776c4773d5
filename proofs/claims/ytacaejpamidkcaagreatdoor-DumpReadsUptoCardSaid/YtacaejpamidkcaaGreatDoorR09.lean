/- isa.Right at right instructions. word.Put of four bytes. -/
import Derived.Lib.SlBytesConst
import Derived.Test.YtacaejpamidkcaaGreatDoorR08
import Derived.Test.YtacaejpamidkcaaGreatDoorShelf
set_option linter.unusedVariables false
set_option linter.unusedSimpArgs false
set_option maxRecDepth 100000
namespace Go.Proofs.YtacaejpamidkcaaGreatDoor
section
open Go.RowKit
attribute [local go_sem] ak_ af_
end
section
open Go.RowKit
attribute [local go_sem] ak_ af_
theorem os_ {w : World} {b : Nat} {arr : Array Value} {t : TypeId} {n m : Nat} (h : w.heap[b]? = some (.cells arr t (n, m))) (i : Nat) (hi : i < n) : w.frozen? ⟨b, i, none⟩ = false := by
 simp [World.frozen?, h]; omega
theorem ta_ (n : Int) (i : Nat) (hi : i < 8) : IntKind.u64.wrap n / 2 ^ (8 * i) % 256 = n / 2 ^ (8 * i) % 256 := by
 have hw : IntKind.u64.wrap n = n % 18446744073709551616 := by rw [IntKind.wrap_u64]
 rw [hw]
 have hc : i = 0 ∨ i = 1 ∨ i = 2 ∨ i = 3 ∨ i = 4 ∨ i = 5 ∨ i = 6 ∨ i = 7 := by omega
 rcases hc with rfl | rfl | rfl | rfl | rfl | rfl | rfl | rfl <;> simp <;> omega
theorem put1 (bn bs ba blk N : Nat) (n at_ : Int) (i len cap : Nat) (l : List Value) (w : World) (hn : w.cell? ⟨bn, 0, none⟩ = some (.int .i64 n)) (hs : w.cell? ⟨bs, 0, none⟩ = some (.slice (some ⟨blk, 0, none⟩) len cap)) (ha : w.cell? ⟨ba, 0, none⟩ = some (.int .i64 at_))
 (hb : w.heap[blk]? = some (.cells l.toArray 5 (N, N + 1))) (h0 : 0 ≤ at_) (h1 : at_ + i < len) (h2 : len ≤ l.length) (h3 : len ≤ N) (hi : i < 8) (hl : len ≤ 1000000) :
 Calls Tryz.prog 102 #[.int .i64 i, .pointer (some ⟨bn, 0, none⟩), .pointer (some ⟨bs, 0, none⟩), .pointer (some ⟨ba, 0, none⟩)] w fun e w' =>
  e = .returned (.tuple #[]) ∧ Only (· = blk) w w' ∧ w'.heap[blk]? = some (.cells (l.set (at_.toNat + i) (.int .u8 (n / 2 ^ (8 * i) % 256))).toArray 5 (N, N + 1)) := by
 have hof : (at_ + (i : Int)).toNat = at_.toNat + i := by omega
 obtain ⟨vv, hv⟩ : ∃ v, l[at_.toNat + i]? = some v := ⟨_, List.getElem?_eq_getElem (by omega)⟩
 have g0 := ab_ hb _ hv
 have gf := os_ hb (at_.toNat + i) (by omega)
 rw [← hof] at g0 gf
 have HH := h2_ hb hof
 clear hb hof hv
 go_enter Tryz.func102, Tryz.ntmps102
 go_wp2
 go_region
 go_wp2
 go_end0
 obtain ⟨hb, hof⟩ := HH.out
 refine ⟨rfl, ((Only.refl (fun x => x = blk) w).setCell _ _ (.inl rfl)).drew, ?_⟩
 rw [hof, ta_ n i hi]
 exact az_ (aj_ hb _ _)
end
end Go.Proofs.YtacaejpamidkcaaGreatDoor
