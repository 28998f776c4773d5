/- slices.Sorted(maps.Keys(m)) at keys that are ints, laid. -/
import Derived.Test.YtkbilipgidcgeaaGreatDoorProg
import Derived.Test.YtkbilipgidcgeaaGreatDoorKeysShelf
import Derived.Shelf.SlIterI.Keys
import Derived.Shelf.SlIterI.Collect
import Derived.RangeFuncBound
import Derived.Deep.AppendLies
import Derived.Ground.GgzProg
import Derived.Test.YtkbilipgidcgeaaGreatDoorW12
import Derived.Test.YtkbilipgidcgeaaGreatDoorW14
set_option linter.unusedVariables false
set_option linter.unusedSimpArgs false
namespace Go.Proofs
open Go.RowKit Go.Maps Go.Sort Go.Shelf

end Go.Proofs
namespace Go.Proofs.YtkbilipgidcgeaaGreatDoor
open Go.RowKit Go.Maps Go.Sort Go.Shelf Go.Proofs

theorem keysT (mb : Option Nat) (W : World) : Calls Tryz.prog 281 #[.map mb] W fun e w' => e = .returned (.func (.func 335) #[] #[.pointer (some ⟨W.heap.size, 0, none⟩)]) ∧ w' = W.alloc (.cells #[.map mb] 143) :=
  (callsIn_wide (n := 5)).1 (AnyZI.keys_in Tryz.keysT Fence.wide 5 trivial rfl mb W)
theorem keysM (mb : Option Nat) (W : World) : Calls Tryz.prog 161 #[.map mb] W fun e w' => e = .returned (.func (.func 219) #[] #[.pointer (some ⟨W.heap.size, 0, none⟩)]) ∧ w' = W.alloc (.cells #[.map mb] 142) :=
  (callsIn_wide (n := 5)).1 (AnyZI.keys_in Tryz.keysM Fence.wide 5 trivial rfl mb W)

theorem collectT {H : Type} (B b nn : Nat) (D0 : DataW H) (R : Value → Option (DataW H × List MemPlace)) (w : World) (hB : w.cell? ⟨B, 0, none⟩ = some (.map (some b))) (hlt : B < w.heap.size) (hown : w.ownsMap Tryz.prog 3 R b nn D0) (hmax : Maps.size D0 ≤ maxLen) (hbytes : Maps.size D0 * 8 ≤ 140737488355328) :
    Calls Tryz.prog 181 #[.func (.func 335) #[] #[.pointer (some ⟨B, 0, none⟩)]] w fun e w' => ∃ (v : Value) (ss : List Int), e = .returned v ∧ (ss.Perm (intKeys D0) ∧ ss.length ≤ Maps.size D0) ∧
      w'.ownsRow w.heap.size 3 1 v ss.length (ss.map encZ) ∧ (v = .slice none 0 0 ↔ ss = []) ∧ Below w.heap.size w w' :=
  (callsIn_wide (n := 5)).1 (AnyZI.collect_in (ρ := Tryz.sortedA_ren) { Tryz.sortedA with } Fence.wide 5 trivial trivial rfl (by omega) 335 #[.pointer (some ⟨B, 0, none⟩)] trivial (enters_of Tryz.func335 (by kernel_rfl) rfl) _ _ hmax hbytes _
    ((AnyZI.keys_gives (ρ := Tryz.keysT_ren) { Tryz.keysT with } Fence.wide _ trivial rfl (by omega) B b nn D0 w hlt hB hown).bounded))

theorem collectM {H : Type} (B b nn : Nat) (D0 : DataW H) (R : Value → Option (DataW H × List MemPlace)) (w : World) (hB : w.cell? ⟨B, 0, none⟩ = some (.map (some b))) (hlt : B < w.heap.size) (hown : w.ownsMap Tryz.prog 3 R b nn D0) (hmax : Maps.size D0 ≤ maxLen) (hbytes : Maps.size D0 * 8 ≤ 140737488355328) :
    Calls Tryz.prog 181 #[.func (.func 219) #[] #[.pointer (some ⟨B, 0, none⟩)]] w fun e w' => ∃ (v : Value) (ss : List Int), e = .returned v ∧ (ss.Perm (intKeys D0) ∧ ss.length ≤ Maps.size D0) ∧
      w'.ownsRow w.heap.size 3 1 v ss.length (ss.map encZ) ∧ (v = .slice none 0 0 ↔ ss = []) ∧ Below w.heap.size w w' :=
  (callsIn_wide (n := 5)).1 (AnyZI.collect_in (ρ := Tryz.sortedA_ren) { Tryz.sortedA with } Fence.wide 5 trivial trivial rfl (by omega) 219 #[.pointer (some ⟨B, 0, none⟩)] trivial (enters_of Tryz.func219 (by kernel_rfl) rfl) _ _ hmax hbytes _
    ((AnyZI.keys_gives (ρ := Tryz.keysM_ren) { Tryz.keysM with } Fence.wide _ trivial rfl (by omega) B b nn D0 w hlt hB hown).bounded))

/-- How any element reads here: not at all. -/
def noRead : Value → Option (DataW Unit × List MemPlace) := fun _ => some (.nil, [])

theorem keyed_int : Keyed Tryz.prog 3 := int_keyed Tryz.underlying3
theorem owns_none {w : World} {b c : Nat} (hb : w.heap[b]? = some (.map #[] c)) : w.ownsMap Tryz.prog 3 noRead b 0 (.map []) :=
  ⟨#[], c, hb, ⟨by simp, MapKept.stamped_empty c, by simp⟩, Nat.le_refl _, rfl⟩
theorem owns_one {w : World} {b c : Nat} {v : Value} (hb : w.heap[b]? = some (.map #[⟨.int .i64 0, v, 0⟩] (c + 1))) : w.ownsMap Tryz.prog 3 noRead b 1 (.map [(.int .i64 0, .nil)]) := by
  have hk : keyOf Tryz.prog 3 (.int .i64 0) = some (.int .i64 0) := keyOf_int_mk Tryz.underlying3 (by decide)
  refine ⟨_, _, hb, ⟨by simp [maxLen], ?_, ?_⟩, by simp, ?_⟩
  · refine (MapKept.stamped_iff _ _).2 ⟨by simp, by simp, by simp⟩
  · intro x hx
    simp at hx
    subst hx
    simp [WideElems.rd, hk, noRead]
  · simp [WideElems.rg, WideElems.rd, hk, noRead]
    rfl

attribute [local go_sem] ext_cell ext_frozen

set_option maxRecDepth 100000 in
theorem sorted_none (B b c : Nat) (w : World) (hB : w.cell? ⟨B, 0, none⟩ = some (.map (some b))) (hlt : B < w.heap.size) (hb : w.heap[b]? = some (.map #[] c)) :
    Calls Tryz.prog 94 #[.func (.func 335) #[] #[.pointer (some ⟨B, 0, none⟩)]] w fun e w' => e = .returned (.slice none 0 0) ∧ Below w.heap.size w w' := by
  have HO := Lib.hid (owns_none hb)
  clear hb
  go_enter Tryz.func94, Tryz.ntmps94
  go_wp2_with fail
  refine (collectT B b 0 (.map []) noRead w hB hlt HO.out (by simp [Maps.size]) (by simp [Maps.size])).mono ?_
  rintro e w1 ⟨v, ss, rfl, hs, hown, hn, hb1⟩
  have hss : ss = [] := List.eq_nil_of_length_eq_zero (by have := hs.2; simp [Maps.size] at this; simp [this])
  obtain rfl := hn.2 hss
  have H1 := Lib.hid hb1
  clear hs hown hn hb1 hss
  go_wp2_with (go_at_call 182; refine (sort_short _ 0 _ _ (by omega)).mono ?_; rintro e w2 ⟨rfl, rfl⟩)
  go_ret
  exact ⟨rfl, H1.out⟩

set_option maxRecDepth 100000 in
theorem sorted_one (B b c : Nat) (v0 : Value) (w : World) (hB : w.cell? ⟨B, 0, none⟩ = some (.map (some b))) (hlt : B < w.heap.size) (hb : w.heap[b]? = some (.map #[⟨.int .i64 0, v0, 0⟩] (c + 1))) :
    Calls Tryz.prog 94 #[.func (.func 219) #[] #[.pointer (some ⟨B, 0, none⟩)]] w fun e w' => ∃ g cap, e = .returned (.slice (some ⟨g, 0, none⟩) 1 cap) ∧ w'.ownsRow w.heap.size 3 1 (.slice (some ⟨g, 0, none⟩) 1 cap) 1 [.int .i64 0] ∧ Below w.heap.size w w' := by
  have HO := Lib.hid (owns_one hb)
  clear hb
  go_enter Tryz.func94, Tryz.ntmps94
  go_wp2_with fail
  refine (collectM B b 1 (.map [(.int .i64 0, .nil)]) noRead w hB hlt HO.out (by simp [Maps.size, maxLen]) (by simp [Maps.size])).mono ?_
  rintro e w1 ⟨v, ss, rfl, hs, hown, hn, hb1⟩
  obtain rfl : ss = [0] := List.perm_singleton.1 hs.1
  obtain ⟨g, cap, rfl, _, _⟩ := World.ownsRow.form hown (by simp)
  have H1 := Lib.hid (And.intro hb1 hown)
  clear hs hown hn hb1
  go_wp2_with (go_at_call 182; refine (sort_short _ 1 _ _ (by omega)).mono ?_; rintro e w2 ⟨rfl, rfl⟩)
  go_ret
  exact ⟨g, cap, rfl, H1.out.2, H1.out.1⟩
end Go.Proofs.YtkbilipgidcgeaaGreatDoor
