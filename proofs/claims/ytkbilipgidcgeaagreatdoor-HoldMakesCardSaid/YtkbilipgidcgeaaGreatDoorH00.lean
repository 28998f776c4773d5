/- Plain lemmas on integers and bytes, no program in sight. Worlds that only grew: a class for regions that draw their order and whose calls make memory. No program in sight. -/
import Derived.WalkKit
import Derived.Deep.QuietTactic
import Derived.BigQuiet
set_option linter.unusedVariables false
set_option linter.unusedSimpArgs false
namespace Go.Proofs.YtkbilipgidcgeaaGreatDoor
open Go.RowKit

theorem tmod_cases (n to : Int) (h : 1 ≤ to) : (n.tmod to < 0 → n % to = n.tmod to + to) ∧ (0 ≤ n.tmod to → n % to = n.tmod to) := by
  by_cases hn : 0 ≤ n
  · have e := Int.tmod_eq_emod_of_nonneg (b := to) hn
    have := Int.emod_nonneg n (show to ≠ 0 by omega)
    exact ⟨fun h => by omega, fun _ => e.symm⟩
  · have e : n.tmod to = -((-n) % to) := by
      rw [← Int.tmod_eq_emod_of_nonneg (by omega : 0 ≤ -n), Int.neg_tmod, Int.neg_neg]
    have h0 := Int.emod_nonneg (-n) (show to ≠ 0 by omega)
    have h1 := Int.emod_lt_of_pos (-n) (show 0 < to by omega)
    have hd := Int.mul_ediv_add_emod (-n) to
    constructor
    · intro hlt
      have : n = (to + n.tmod to) + to * (-((-n) / to) - 1) := by
        rw [Int.mul_sub, Int.mul_neg]; omega
      rw [this, Int.add_mul_emod_self_left, Int.emod_eq_of_lt (by omega) (by omega)]
      rw [← this]; omega
    · intro hge
      have hz : n.tmod to = 0 := by omega
      have : n = 0 + to * (-((-n) / to)) := by rw [Int.mul_neg]; omega
      rw [this, Int.add_mul_emod_self_left]
      rw [← this, hz]; simp
end Go.Proofs.YtkbilipgidcgeaaGreatDoor

namespace Go.Proofs.YtkbilipgidcgeaaGreatDoor
open Go.RowKit

/-- What a world has more than another: blocks, and a count of draws. -/
structure More where
  more : Array Obj
  drawn : Nat

instance : Inhabited More := ⟨⟨#[], 0⟩⟩

/-- w with more blocks behind its own, and another count of draws. -/
def ext (w : World) (k : More) : World := { w with heap := w.heap ++ k.more, drawn := k.drawn }

theorem heap_ext_size (w : World) (k : More) : (ext w k).heap.size = w.heap.size + k.more.size := by simp [ext]
theorem heap_ext_lt (w : World) (k : More) (i : Nat) (h : i < w.heap.size) : (ext w k).heap[i]? = w.heap[i]? := by
  simp only [ext]; rw [Array.getElem?_append_left h]

theorem ext_below (w : World) (k : More) : Below w.heap.size w (ext w k) :=
  ⟨rfl, rfl, rfl, by rw [heap_ext_size]; omega, fun i h => heap_ext_lt w k i h⟩

theorem ext_of_below {w w' : World} (h : Below w.heap.size w w') : ∃ k, w' = ext w k := by
  refine ⟨⟨w'.heap.extract w.heap.size w'.heap.size, w'.drawn⟩, ?_⟩
  obtain ⟨h1, h2, h3, h4, h5⟩ := h
  cases w' with
  | mk heap tape drawn os output =>
    simp only [ext] at *
    subst h1 h2 h3
    congr 1
    apply Array.ext
    · simp; omega
    · intro i hi hi'
      by_cases hlt : i < w.heap.size
      · have := h5 i hlt
        rw [Array.getElem?_eq_getElem hi, Array.getElem?_eq_getElem hlt] at this
        rw [Array.getElem_append_left hlt]
        exact Option.some.inj this
      · rw [Array.getElem_append_right (by omega), Array.getElem_extract]
        congr 1; omega

/-- The cells and marks of a block that was there. -/
theorem ext_cell (w : World) (k : More) (b o : Nat) (s : Option Nat) (h : b < w.heap.size) : (ext w k).cell? ⟨b, o, s⟩ = w.cell? ⟨b, o, s⟩ :=
  World.cell?_of_block (heap_ext_lt w k b h)
theorem ext_frozen (w : World) (k : More) (b o : Nat) (s : Option Nat) (h : b < w.heap.size) : (ext w k).frozen? ⟨b, o, s⟩ = w.frozen? ⟨b, o, s⟩ :=
  World.frozen?_of_block (heap_ext_lt w k b h)
theorem ext_block (w : World) (k : More) (b : Nat) (h : b < w.heap.size) : (ext w k).heap[b]? = w.heap[b]? := heap_ext_lt w k b h

theorem bcell {W w1 : World} (hb : Below W.heap.size W w1) : (∀ b o, b < W.heap.size → w1.cell? ⟨b, o, none⟩ = W.cell? ⟨b, o, none⟩) ∧ (∀ b o, b < W.heap.size → w1.frozen? ⟨b, o, none⟩ = W.frozen? ⟨b, o, none⟩) :=
  ⟨fun b o h => hb.cell (p := ⟨b, o, none⟩) h, fun b o h => hb.frozen (p := ⟨b, o, none⟩) h⟩

/-- The last new block, behind something that only made memory. -/
theorem new_block {w w1 : World} {o : Obj} (h : Below (w.alloc o).heap.size (w.alloc o) w1) : w1.heap[w.heap.size]? = some o :=
  (h.block _ (by simp)).trans (heap_alloc_new w o)
theorem cell_in {w : World} {b : Nat} {arr : Array Value} {t : TypeId} {fr : Nat × Nat} (h : w.heap[b]? = some (.cells arr t fr)) (i : Nat) {v : Value} (hv : arr[i]? = some v) : w.cell? ⟨b, i, none⟩ = some v := by
  simp [World.cell?, h, hv]
theorem free_in {w : World} {b : Nat} {arr : Array Value} {t : TypeId} (h : w.heap[b]? = some (.cells arr t (0, 0))) (i : Nat) : w.frozen? ⟨b, i, none⟩ = false := by
  simp [World.frozen?, h]

section
variable {P : Program}
/-- A callee's contract 'Below', met in the world 'ext w n'. -/
theorem calls_ext {f : FuncId} {args : Array Value} {w : World} {n : More} {v : Value}
    (h : Calls P f args (ext w n) fun e w' => e = .returned v ∧ Below (ext w n).heap.size (ext w n) w') : Calls P f args (ext w n) fun e w'' => e = .returned v ∧ ∃ m, w'' = ext w m :=
  h.mono fun _ w' ⟨he, hb⟩ => ⟨he, ext_of_below ((ext_below w n).trans (hb.mono (by rw [heap_ext_size]; omega)))⟩

/-- A region that draws its order, whose operations only read and whose calls only make memory: one walk. -/
theorem region_ext {id : Nat} {Q : Exit → Act → World → Prop} {a : Act} {w : World} {l : List Oper} (hm : P.follows .mixedOrders = true) (hB : Region.lexB .any l.toArray = true)
    (h : wpQuiet P l.toArray (fun w' => ∃ k, w' = ext w k) (fun a' => ∀ w', (∃ k, w' = ext w k) → Q .normal a' w') l a) : (Code.region id l.toArray true).wp P Q a w :=
  wp_region_quiet (C := fun w' => ∃ k, w' = ext w k) hm hB ⟨⟨#[], w.drawn + 1⟩, by simp [ext]⟩ (by simpa using h)

/-- The end of such a walk: what stands behind it is asked of every world that grew. -/
theorem region_ext_end {ops : Array Oper} {C : World → Prop} {Q : Exit → Act → World → Prop} {a : Act} {w : World} (h : ∀ w', Below w.heap.size w w' → Q .normal a w') :
    wpQuiet P ops C (fun a' => ∀ w', (∃ k, w' = ext w k) → Q .normal a' w') [] a :=
  wpQuiet_nil fun w' hw => by obtain ⟨k, rfl⟩ := hw; exact h _ (ext_below w k)
end
attribute [local go_sem] ext_cell ext_frozen
end Go.Proofs.YtkbilipgidcgeaaGreatDoor
