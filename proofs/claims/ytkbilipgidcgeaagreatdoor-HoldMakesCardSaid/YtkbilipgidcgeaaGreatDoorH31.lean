/- What stands behind stores of several cells. -/
import Derived.Test.YtkbilipgidcgeaaGreatDoorH05
import Derived.Test.YtkbilipgidcgeaaGreatDoorH03
set_option linter.unusedVariables false
set_option linter.unusedSimpArgs false
namespace Go.Proofs.YtkbilipgidcgeaaGreatDoor
open Go.RowKit

theorem block_setCells (b : Nat) (t : TypeId) (fr : Nat × Nat) : ∀ (vs l : List Value) (o : Nat) (w : World), o + vs.length ≤ l.length → w.heap[b]? = some (.cells l.toArray t fr) →
    (w.setCells b o vs).heap[b]? = some (.cells (l.take o ++ vs ++ l.drop (o + vs.length)).toArray t fr)
  | [], l, o, w, _, h => by simpa [World.setCells] using h
  | v :: r, l, o, w, hl, h => by
    simp only [List.length_cons] at hl
    have ih := block_setCells b t fr r (l.set o v) (o + 1) (w.setCell ⟨b, o, none⟩ v) (by simp; omega) (block_set h o v)
    rw [World.setCells, ih]
    congr 3
    rw [List.take_set, List.drop_set, if_pos (by omega), List.length_cons, show o + 1 + r.length = o + (r.length + 1) by omega]
    have : (l.take (o + 1)).set o v = l.take o ++ [v] := by
      have hlt : (l.take o).length = o := by rw [List.length_take]; omega
      rw [List.take_succ_eq_append_getElem (by omega), List.set_append_right _ _ (by omega), hlt, Nat.sub_self]
      rfl
    rw [this]
    simp

theorem Only.setCells {S : Nat → Prop} {w : World} (b : Nat) (hg : S b ∨ w.heap.size ≤ b) : ∀ (vs : List Value) (o : Nat) (w1 : World), Only S w w1 → Only S w (w1.setCells b o vs)
  | [], _, _, h => h
  | v :: r, o, w1, h => Only.setCells b hg r (o + 1) _ (h.setCell ⟨b, o, none⟩ v hg)

end Go.Proofs.YtkbilipgidcgeaaGreatDoor
