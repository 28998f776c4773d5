/- linchpinref28.Same at the same areas. -/
import Derived.StillTailTactics
import Derived.Test.YtkbilipgidcgeaaGreatDoorW36
set_option linter.unusedVariables false
set_option linter.unusedSimpArgs false
namespace Go.Proofs.YtkbilipgidcgeaaGreatDoor
open Go.RowKit
attribute [local go_sem] ext_cell ext_frozen

set_option maxRecDepth 100000 in
set_option maxHeartbeats 2000000 in
theorem same_areas (ga ca gb cb : Nat) (ps : List Part) (w : World) (ha : ∀ j u, (areasCells ps)[j]? = some u → w.cell? ⟨ga, j, none⟩ = some u) (hb : ∀ j u, (areasCells ps)[j]? = some u → w.cell? ⟨gb, j, none⟩ = some u) (hn : ps.length ≤ 4096) (lga : ga < w.heap.size) (lgb : gb < w.heap.size) :
    Calls Tryz.prog 53 #[.slice (some ⟨ga, 0, none⟩) ps.length ca, .slice (some ⟨gb, 0, none⟩) ps.length cb] w fun e w' => e = .returned (.bool true) ∧ Below w.heap.size w w' := by
  have HA := Lib.hid (And.intro ha hb)
  clear ha hb
  go_enter Tryz.func53, Tryz.ntmps53
  go_wp2
  go_loopw [5] (fun i wr => ∃ k : Nat, k ≤ ps.length ∧ i = .int .i64 k ∧ Below w.heap.size w wr) (fun i _ => ps.length - (pI i).toNat)
  case atStart => exact ⟨0, Nat.zero_le _, rfl, Below.refl _ _⟩
  case round =>
    obtain ⟨k, hk, rfl, hbl⟩ := hrel
    by_cases hlt : k < ps.length
    · have da : ∀ j u, j < 5 → (areaCells ps[k])[j]? = some u → wr.cell? ⟨ga, k * 5 + j, none⟩ = some u := fun j u hj hu =>
        (hbl.cell (p := ⟨ga, k * 5 + j, none⟩) lga).trans (HA.out.1 _ _ ((areasCells_get ps k hlt j hj).trans hu))
      have db : ∀ j u, j < 5 → (areaCells ps[k])[j]? = some u → wr.cell? ⟨gb, k * 5 + j, none⟩ = some u := fun j u hj hu =>
        (hbl.cell (p := ⟨gb, k * 5 + j, none⟩) lgb).trans (HA.out.2 _ _ ((areasCells_get ps k hlt j hj).trans hu))
      have a0 := da 0 _ (by omega) rfl
      have a1 := da 1 _ (by omega) rfl
      have a2 := da 2 _ (by omega) rfl
      have a3 := da 3 _ (by omega) rfl
      have a4 := da 4 _ (by omega) rfl
      have b0 := db 0 _ (by omega) rfl
      have b1 := db 1 _ (by omega) rfl
      have b2 := db 2 _ (by omega) rfl
      have b3 := db 3 _ (by omega) rfl
      have b4 := db 4 _ (by omega) rfl
      rw [Nat.add_zero] at a0 b0
      have k0 : (0 : Int) ≤ (k : Int) := by omega
      have k1 : (k : Int) < (ps.length : Int) := by omega
      have HB := Lib.hid hbl
      clear da db hbl
      generalize ps[k] = q at *
      go_wp2
      go_quiet (fail)
      go_wp2
      go_roundw
      case rel => exact ⟨k + 1, by omega, by go_num, HB.out.trans ((below_drewN _ _).mono HB.out.size)⟩
      case measure => simp [pI]; omega
    · obtain rfl : k = ps.length := by omega
      have HB := Lib.hid hbl
      clear hbl
      go_wp2
      go_ret
      exact ⟨rfl, HB.out⟩
end Go.Proofs.YtkbilipgidcgeaaGreatDoor
