/- slices.Sorted(maps.Keys(m)) at keys that are ints, laid. -/
import Derived.Test.YtacaejpamidkcaaGreatDoorKeysShelf
import Derived.Test.YtacaejpamidkcaaGreatDoorR12
set_option linter.unusedVariables false
set_option linter.unusedSimpArgs false
set_option maxRecDepth 100000
namespace Go.Proofs.YtacaejpamidkcaaGreatDoor
end Go.Proofs.YtacaejpamidkcaaGreatDoor
namespace Go.Proofs
open Go.RowKit Go.Maps Go.Sort Go.Shelf
end Go.Proofs
namespace Go.Proofs.YtacaejpamidkcaaGreatDoor
open Go.RowKit Go.Maps Go.Sort Go.Shelf Go.Proofs
theorem keysT (mb : Option Nat) (W : World) : Calls Tryz.prog 344 #[.map mb] W fun e w' => e = .returned (.func (.func 411) #[] #[.pointer (some ⟨W.heap.size, 0, none⟩)]) ∧ w' = W.alloc (.cells #[.map mb] 161) :=
 (callsIn_wide (n := 5)).1 (AnyZI.keys_in Tryz.keysT Fence.wide 5 trivial rfl mb W)
theorem keysM (mb : Option Nat) (W : World) : Calls Tryz.prog 163 #[.map mb] W fun e w' => e = .returned (.func (.func 243) #[] #[.pointer (some ⟨W.heap.size, 0, none⟩)]) ∧ w' = W.alloc (.cells #[.map mb] 160) :=
 (callsIn_wide (n := 5)).1 (AnyZI.keys_in Tryz.keysM Fence.wide 5 trivial rfl mb W)
theorem wj_ {H : Type} (B b nn : Nat) (D0 : DataW H) (R : Value → Option (DataW H × List MemPlace)) (w : World) (hB : w.cell? ⟨B, 0, none⟩ = some (.map (some b))) (hlt : B < w.heap.size) (hown : w.ownsMap Tryz.prog 3 R b nn D0) (hmax : Maps.size D0 ≤ maxLen) (hbytes : Maps.size D0 * 8 ≤ 140737488355328) :
 Calls Tryz.prog 241 #[.func (.func 411) #[] #[.pointer (some ⟨B, 0, none⟩)]] w fun e w' => ∃ (v : Value) (ss : List Int), e = .returned v ∧ (ss.Perm (intKeys D0) ∧ ss.length ≤ Maps.size D0) ∧
  w'.ownsRow w.heap.size 3 1 v ss.length (ss.map encZ) ∧ (v = .slice none 0 0 ↔ ss = []) ∧ Below w.heap.size w w' :=
 (callsIn_wide (n := 5)).1 (AnyZI.collect_in (ρ := Tryz.sortedA_ren) { Tryz.sortedA with } Fence.wide 5 trivial trivial rfl (by omega) 411 #[.pointer (some ⟨B, 0, none⟩)] trivial (enters_of Tryz.func411 (by kernel_rfl) rfl) _ _ hmax hbytes _
   ((AnyZI.keys_gives (ρ := Tryz.keysT_ren) { Tryz.keysT with } Fence.wide _ trivial rfl (by omega) B b nn D0 w hlt hB hown).bounded))
theorem wk_ {H : Type} (B b nn : Nat) (D0 : DataW H) (R : Value → Option (DataW H × List MemPlace)) (w : World) (hB : w.cell? ⟨B, 0, none⟩ = some (.map (some b))) (hlt : B < w.heap.size) (hown : w.ownsMap Tryz.prog 3 R b nn D0) (hmax : Maps.size D0 ≤ maxLen) (hbytes : Maps.size D0 * 8 ≤ 140737488355328) :
 Calls Tryz.prog 241 #[.func (.func 243) #[] #[.pointer (some ⟨B, 0, none⟩)]] w fun e w' => ∃ (v : Value) (ss : List Int), e = .returned v ∧ (ss.Perm (intKeys D0) ∧ ss.length ≤ Maps.size D0) ∧
  w'.ownsRow w.heap.size 3 1 v ss.length (ss.map encZ) ∧ (v = .slice none 0 0 ↔ ss = []) ∧ Below w.heap.size w w' :=
 (callsIn_wide (n := 5)).1 (AnyZI.collect_in (ρ := Tryz.sortedA_ren) { Tryz.sortedA with } Fence.wide 5 trivial trivial rfl (by omega) 243 #[.pointer (some ⟨B, 0, none⟩)] trivial (enters_of Tryz.func243 (by kernel_rfl) rfl) _ _ hmax hbytes _
   ((AnyZI.keys_gives (ρ := Tryz.keysM_ren) { Tryz.keysM with } Fence.wide _ trivial rfl (by omega) B b nn D0 w hlt hB hown).bounded))
def ky_ : Value → Option (DataW Unit × List MemPlace) := fun _ => some (.nil, [])
theorem tk_ {w : World} {b c : Nat} (hb : w.heap[b]? = some (.map #[] c)) : w.ownsMap Tryz.prog 3 ky_ b 0 (.map []) :=
 ⟨#[], c, hb, ⟨by simp, MapKept.stamped_empty c, by simp⟩, Nat.le_refl _, rfl⟩
theorem wm_ {w : World} {b c : Nat} {v : Value} (hb : w.heap[b]? = some (.map #[⟨.int .i64 0, v, 0⟩] (c + 1))) : w.ownsMap Tryz.prog 3 ky_ b 1 (.map [(.int .i64 0, .nil)]) := by
 have hk : keyOf Tryz.prog 3 (.int .i64 0) = some (.int .i64 0) := keyOf_int_mk Tryz.underlying3 (by decide)
 refine ⟨_, _, hb, ⟨by simp [maxLen], ?_, ?_⟩, by simp, ?_⟩
 · refine (MapKept.stamped_iff _ _).2 ⟨by simp, by simp, by simp⟩
 · intro x hx
   simp at hx
   subst hx
   simp [WideElems.rd, hk, ky_]
 · simp [WideElems.rg, WideElems.rd, hk, ky_]
   rfl
attribute [local go_sem] ak_ af_
theorem ov_ (B b c : Nat) (w : World) (hB : w.cell? ⟨B, 0, none⟩ = some (.map (some b))) (hlt : B < w.heap.size) (hb : w.heap[b]? = some (.map #[] c)) :
 Calls Tryz.prog 162 #[.func (.func 411) #[] #[.pointer (some ⟨B, 0, none⟩)]] w fun e w' => e = .returned (.slice none 0 0) ∧ Below w.heap.size w w' := by
 have HO := h1_ (tk_ hb)
 clear hb
 go_enter Tryz.func162, Tryz.ntmps162
 go_wp2_with fail
 refine (wj_ B b 0 (.map []) ky_ w hB hlt HO.out (by simp [Maps.size]) (by simp [Maps.size])).mono ?_
 rintro e w1 ⟨v, ss, rfl, hs, hown, hn, hb1⟩
 have hss : ss = [] := List.eq_nil_of_length_eq_zero (by have := hs.2; simp [Maps.size] at this; simp [this])
 obtain rfl := hn.2 hss
 have H1 := h1_ hb1
 clear hs hown hn hb1 hss
 go_wp2_with (go_at_call 242; refine (ev_ _ 0 _ _ (by omega)).mono ?_; rintro e w2 ⟨rfl, rfl⟩)
 go_ret
 exact ⟨rfl, H1.out⟩
theorem rj_ (B b c : Nat) (v0 : Value) (w : World) (hB : w.cell? ⟨B, 0, none⟩ = some (.map (some b))) (hlt : B < w.heap.size) (hb : w.heap[b]? = some (.map #[⟨.int .i64 0, v0, 0⟩] (c + 1))) :
 Calls Tryz.prog 162 #[.func (.func 243) #[] #[.pointer (some ⟨B, 0, none⟩)]] w fun e w' => ∃ g cap, e = .returned (.slice (some ⟨g, 0, none⟩) 1 cap) ∧ w'.ownsRow w.heap.size 3 1 (.slice (some ⟨g, 0, none⟩) 1 cap) 1 [.int .i64 0] ∧ Below w.heap.size w w' := by
 have HO := h1_ (wm_ hb)
 clear hb
 go_enter Tryz.func162, Tryz.ntmps162
 go_wp2_with fail
 refine (wk_ B b 1 (.map [(.int .i64 0, .nil)]) ky_ w hB hlt HO.out (by simp [Maps.size, maxLen]) (by simp [Maps.size])).mono ?_
 rintro e w1 ⟨v, ss, rfl, hs, hown, hn, hb1⟩
 obtain rfl : ss = [0] := List.perm_singleton.1 hs.1
 obtain ⟨g, cap, rfl, _, _⟩ := World.ownsRow.form hown (by simp)
 have H1 := h2_ hb1 hown
 clear hs hown hn hb1
 go_wp2_with (go_at_call 242; refine (ev_ _ 1 _ _ (by omega)).mono ?_; rintro e w2 ⟨rfl, rfl⟩)
 go_ret
 exact ⟨g, cap, rfl, H1.out.2, H1.out.1⟩
end Go.Proofs.YtacaejpamidkcaaGreatDoor
namespace Go.Proofs.YtacaejpamidkcaaGreatDoor
end Go.Proofs.YtacaejpamidkcaaGreatDoor
