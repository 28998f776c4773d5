/- slices.Sorted(maps.Keys(m)) at keys that are ints, laid. Sets of ints: what a block holds; hold: add, meets. -/
import Derived.Test.YtkbilipgidcgeaaGreatDoorProg
import Derived.Test.YtkbilipgidcgeaaGreatDoorKeysShelf
import Derived.Shelf.SlIterI.Keys
import Derived.Shelf.SlIterI.Collect
import Derived.RangeFuncBound
import Derived.Deep.AppendLies
import Derived.Ground.GgzProg
import Derived.Test.YtkbilipgidcgeaaGreatDoorH12
import Derived.Test.YtkbilipgidcgeaaGreatDoorH14
import Derived.Maps.OwnSet
import Derived.Maps.RangeWalk
import Derived.Lib.SlKeysI
import Derived.IntWalk
import Derived.Test.YtkbilipgidcgeaaGreatDoorH13
set_option linter.unusedVariables false
set_option linter.unusedSimpArgs false
namespace Go.Proofs
open Go.RowKit Go.Maps Go.Sort Go.Shelf

end Go.Proofs
namespace Go.Proofs.YtkbilipgidcgeaaGreatDoor
open Go.RowKit Go.Maps Go.Sort Go.Shelf Go.Proofs

theorem keysT (mb : Option Nat) (W : World) : Calls Tryz.prog 281 #[.map mb] W fun e w' => e = .returned (.func (.func 335) #[] #[.pointer (some ⟨W.heap.size, 0, none⟩)]) ∧ w' = W.alloc (.cells #[.map mb] 143) :=
  (callsIn_wide (n := 5)).1 (AnyZI.keys_in Tryz.keysT Fence.wide 5 trivial rfl mb W)
theorem keysM (mb : Option Nat) (W : World) : Calls Tryz.prog 161 #[.map mb] W fun e w' => e = .returned (.func (.func 219) #[] #[.pointer (some ⟨W.heap.size, 0, none⟩)]) ∧ w' = W.alloc (.cells #[.map mb] 142) :=
  (callsIn_wide (n := 5)).1 (AnyZI.keys_in Tryz.keysM Fence.wide 5 trivial rfl mb W)

theorem collectT {H : Type} (B b nn : Nat) (D0 : DataW H) (R : Value → Option (DataW H × List MemPlace)) (w : World) (hB : w.cell? ⟨B, 0, none⟩ = some (.map (some b))) (hlt : B < w.heap.size) (hown : w.ownsMap Tryz.prog 3 R b nn D0) (hmax : Maps.size D0 ≤ maxLen) (hbytes : Maps.size D0 * 8 ≤ 140737488355328) :
    Calls Tryz.prog 181 #[.func (.func 335) #[] #[.pointer (some ⟨B, 0, none⟩)]] w fun e w' => ∃ (v : Value) (ss : List Int), e = .returned v ∧ (ss.Perm (intKeys D0) ∧ ss.length ≤ Maps.size D0) ∧
      w'.ownsRow w.heap.size 3 1 v ss.length (ss.map encZ) ∧ (v = .slice none 0 0 ↔ ss = []) ∧ Below w.heap.size w w' :=
  (callsIn_wide (n := 5)).1 (AnyZI.collect_in (ρ := Tryz.sortedA_ren) { Tryz.sortedA with } Fence.wide 5 trivial trivial rfl (by omega) 335 #[.pointer (some ⟨B, 0, none⟩)] trivial (enters_of Tryz.func335 (by kernel_rfl) rfl) _ _ hmax hbytes _
    ((AnyZI.keys_gives (ρ := Tryz.keysT_ren) { Tryz.keysT with } Fence.wide _ trivial rfl (by omega) B b nn D0 w hlt hB hown).bounded))

theorem collectM {H : Type} (B b nn : Nat) (D0 : DataW H) (R : Value → Option (DataW H × List MemPlace)) (w : World) (hB : w.cell? ⟨B, 0, none⟩ = some (.map (some b))) (hlt : B < w.heap.size) (hown : w.ownsMap Tryz.prog 3 R b nn D0) (hmax : Maps.size D0 ≤ maxLen) (hbytes : Maps.size D0 * 8 ≤ 140737488355328) :
    Calls Tryz.prog 181 #[.func (.func 219) #[] #[.pointer (some ⟨B, 0, none⟩)]] w fun e w' => ∃ (v : Value) (ss : List Int), e = .returned v ∧ (ss.Perm (intKeys D0) ∧ ss.length ≤ Maps.size D0) ∧
      w'.ownsRow w.heap.size 3 1 v ss.length (ss.map encZ) ∧ (v = .slice none 0 0 ↔ ss = []) ∧ Below w.heap.size w w' :=
  (callsIn_wide (n := 5)).1 (AnyZI.collect_in (ρ := Tryz.sortedA_ren) { Tryz.sortedA with } Fence.wide 5 trivial trivial rfl (by omega) 219 #[.pointer (some ⟨B, 0, none⟩)] trivial (enters_of Tryz.func219 (by kernel_rfl) rfl) _ _ hmax hbytes _
    ((AnyZI.keys_gives (ρ := Tryz.keysM_ren) { Tryz.keysM with } Fence.wide _ trivial rfl (by omega) B b nn D0 w hlt hB hown).bounded))

/-- How any element reads here: not at all. -/
def noRead : Value → Option (DataW Unit × List MemPlace) := fun _ => some (.nil, [])

theorem keyed_int : Keyed Tryz.prog 3 := int_keyed Tryz.underlying3
theorem owns_none {w : World} {b c : Nat} (hb : w.heap[b]? = some (.map #[] c)) : w.ownsMap Tryz.prog 3 noRead b 0 (.map []) :=
  ⟨#[], c, hb, ⟨by simp, MapKept.stamped_empty c, by simp⟩, Nat.le_refl _, rfl⟩
theorem owns_one {w : World} {b c : Nat} {v : Value} (hb : w.heap[b]? = some (.map #[⟨.int .i64 0, v, 0⟩] (c + 1))) : w.ownsMap Tryz.prog 3 noRead b 1 (.map [(.int .i64 0, .nil)]) := by
  have hk : keyOf Tryz.prog 3 (.int .i64 0) = some (.int .i64 0) := keyOf_int_mk Tryz.underlying3 (by decide)
  refine ⟨_, _, hb, ⟨by simp [maxLen], ?_, ?_⟩, by simp, ?_⟩
  · refine (MapKept.stamped_iff _ _).2 ⟨by simp, by simp, by simp⟩
  · intro x hx
    simp at hx
    subst hx
    simp [WideElems.rd, hk, noRead]
  · simp [WideElems.rg, WideElems.rd, hk, noRead]
    rfl

attribute [local go_sem] ext_cell ext_frozen

set_option maxRecDepth 100000 in
theorem sorted_none (B b c : Nat) (w : World) (hB : w.cell? ⟨B, 0, none⟩ = some (.map (some b))) (hlt : B < w.heap.size) (hb : w.heap[b]? = some (.map #[] c)) :
    Calls Tryz.prog 94 #[.func (.func 335) #[] #[.pointer (some ⟨B, 0, none⟩)]] w fun e w' => e = .returned (.slice none 0 0) ∧ Below w.heap.size w w' := by
  have HO := Lib.hid (owns_none hb)
  clear hb
  go_enter Tryz.func94, Tryz.ntmps94
  go_wp2_with fail
  refine (collectT B b 0 (.map []) noRead w hB hlt HO.out (by simp [Maps.size]) (by simp [Maps.size])).mono ?_
  rintro e w1 ⟨v, ss, rfl, hs, hown, hn, hb1⟩
  have hss : ss = [] := List.eq_nil_of_length_eq_zero (by have := hs.2; simp [Maps.size] at this; simp [this])
  obtain rfl := hn.2 hss
  have H1 := Lib.hid hb1
  clear hs hown hn hb1 hss
  go_wp2_with (go_at_call 182; refine (sort_short _ 0 _ _ (by omega)).mono ?_; rintro e w2 ⟨rfl, rfl⟩)
  go_ret
  exact ⟨rfl, H1.out⟩

set_option maxRecDepth 100000 in
theorem sorted_one (B b c : Nat) (v0 : Value) (w : World) (hB : w.cell? ⟨B, 0, none⟩ = some (.map (some b))) (hlt : B < w.heap.size) (hb : w.heap[b]? = some (.map #[⟨.int .i64 0, v0, 0⟩] (c + 1))) :
    Calls Tryz.prog 94 #[.func (.func 219) #[] #[.pointer (some ⟨B, 0, none⟩)]] w fun e w' => ∃ g cap, e = .returned (.slice (some ⟨g, 0, none⟩) 1 cap) ∧ w'.ownsRow w.heap.size 3 1 (.slice (some ⟨g, 0, none⟩) 1 cap) 1 [.int .i64 0] ∧ Below w.heap.size w w' := by
  have HO := Lib.hid (owns_one hb)
  clear hb
  go_enter Tryz.func94, Tryz.ntmps94
  go_wp2_with fail
  refine (collectM B b 1 (.map [(.int .i64 0, .nil)]) noRead w hB hlt HO.out (by simp [Maps.size, maxLen]) (by simp [Maps.size])).mono ?_
  rintro e w1 ⟨v, ss, rfl, hs, hown, hn, hb1⟩
  obtain rfl : ss = [0] := List.perm_singleton.1 hs.1
  obtain ⟨g, cap, rfl, _, _⟩ := World.ownsRow.form hown (by simp)
  have H1 := Lib.hid (And.intro hb1 hown)
  clear hs hown hn hb1
  go_wp2_with (go_at_call 182; refine (sort_short _ 1 _ _ (by omega)).mono ?_; rintro e w2 ⟨rfl, rfl⟩)
  go_ret
  exact ⟨g, cap, rfl, H1.out.2, H1.out.1⟩
end Go.Proofs.YtkbilipgidcgeaaGreatDoor

namespace Go.Proofs.YtkbilipgidcgeaaGreatDoor
open Go.RowKit Go.Maps

def vI : Value → Int | .int _ n => n | _ => 0
theorem int_key : Keyed Tryz.prog 3 := int_keyed Tryz.underlying3

/-- A block holds a set. -/
def SetAt (w : World) (b n : Nat) (S : Int → Prop) : Prop := ∃ D : DataW Unit, w.ownsMap Tryz.prog 3 unitElem b n D ∧ ∀ k, Maps.has D (.int .i64 k) = true ↔ S k

theorem SetAt.lt {w : World} {b n : Nat} {S : Int → Prop} (h : SetAt w b n S) : b < w.heap.size := by
  obtain ⟨D, h, _⟩ := h
  exact h.lt
theorem SetAt.made (w : World) : SetAt (w.alloc (.map #[] 0)) w.heap.size 0 (fun _ => False) := ⟨.map [], World.ownsMap_made _ _ _ _, fun k => by simp [Maps.has_eq]⟩
theorem SetAt.only {w w' : World} {b n : Nat} {S : Int → Prop} {T : Nat → Prop} (h : SetAt w b n S) (ho : Only T w w') (hn : ¬ T b) : SetAt w' b n S := by
  obtain ⟨D, ⟨es, c, hb, r⟩, hD⟩ := h
  exact ⟨D, ⟨es, c, ho.kept hb hn, r⟩, hD⟩
theorem SetAt.below {w w' : World} {b n : Nat} {S : Int → Prop} (h : SetAt w b n S) (hb : Below w.heap.size w w') : SetAt w' b n S :=
  h.only (Only.of_below (S := fun _ => False) hb) (fun h => h)
theorem SetAt.same {w : World} {b n : Nat} {S T : Int → Prop} (h : SetAt w b n S) (hST : ∀ k, S k ↔ T k) : SetAt w b n T := by
  obtain ⟨D, h, hD⟩ := h
  exact ⟨D, h, fun k => (hD k).trans (hST k)⟩

theorem only_turned {w w' : World} {b : Nat} (h : w.mapTurned w' b) : Only (· = b) w w' := by
  have hg := h.grown
  exact ⟨hg.os, hg.tape, hg.output, hg.size, fun k hk hn => hg.block k hk (fun e => hn (Option.some.inj e))⟩

/-- What a set is behind a further element. -/
theorem SetAt.put {w' : World} {b n : Nat} {S : Int → Prop} {D : DataW Unit} {d : DataW Unit} {x : Int} (hD : ∀ k, Maps.has D (.int .i64 k) = true ↔ S k) (hm : IsMap D) (h : w'.ownsMap Tryz.prog 3 unitElem b (n + 1) (D.put (.int .i64 x) d)) : SetAt w' b (n + 1) (fun k => k = x ∨ S k) := by
  refine ⟨_, h, fun k => ?_⟩
  by_cases e : k = x
  · subst e
    rw [has_put_same hm (show WideAt.IsKeyLit (.int .i64 k) from trivial)]
    simp
  · rw [has_put_other (by intro h; injection h with _ h; exact e h), hD k]
    simp [e]

/-- A list of ints in memory. -/
def IntsAt (w : World) (g o : Nat) (zs : List Int) : Prop := ∀ j (h : j < zs.length), w.cell? ⟨g, o + j, none⟩ = some (.int .i64 zs[j])

attribute [local go_sem] ext_cell ext_frozen

set_option maxRecDepth 100000 in
set_option maxHeartbeats 1000000 in
theorem set_add (b n g o cap : Nat) (S : Int → Prop) (zs : List Int) (w : World) (hS : SetAt w b n S) (hz : IntsAt w g o zs) (hwf : ∀ z ∈ zs, (Lit.int .i64 z).wf = true) (hne : g ≠ b) (hgl : g < w.heap.size) (hmax : n + zs.length < 1000000) :
    Calls Tryz.prog 93 #[.map (some b), .slice (some ⟨g, o, none⟩) zs.length cap] w fun e w' => e = .returned (.tuple #[]) ∧ SetAt w' b (n + zs.length) (fun k => k ∈ zs ∨ S k) ∧ Only (· = b) w w' := by
  have HZ := Lib.hid (And.intro hS (And.intro hz hwf))
  clear hS hz hwf
  go_enter Tryz.func93, Tryz.ntmps93
  go_wp2
  go_loopw [5, 8] (fun _ i wr => ∃ k : Nat, k ≤ zs.length ∧ i = .int .i64 k ∧ SetAt wr b (n + k) (fun x => x ∈ zs.take k ∨ S x) ∧ Only (· = b) w wr) (fun _ i _ => zs.length - (vI i).toNat)
  case atStart => exact ⟨0, Nat.zero_le _, rfl, HZ.out.1.same (by simp), Only.refl _ _⟩
  case round =>
    obtain ⟨k, hk, rfl, hs, ho⟩ := hrel
    by_cases hlt : k < zs.length
    · have hc := (ho.cell hgl hne).trans (HZ.out.2.1 k hlt)
      have hw := HZ.out.2.2 _ (List.getElem_mem hlt)
      obtain ⟨x, hx⟩ : ∃ x, x = zs[k] := ⟨_, rfl⟩
      rw [← hx] at hc hw
      obtain ⟨D, hown, hD⟩ := hs
      have HO := Lib.hid (And.intro ho (And.intro hD (And.intro hx hown.isMap)))
      clear ho hD hx
      go_wp2_with (at_mapUpdate; refine wpList_mapUpdate_in wr rfl _ _ _ 127 rfl 3 196 int_key Tryz.underlying127 unitElem b _ D rfl hown (by unfold maxLen; omega) _ _ (.int .i64 x) rfl rfl (keyOf_int_mk Tryz.underlying3 hw) _ _ unitElem_mk ?_; intro w1 hown1 hturn1; go_frame)
      obtain ⟨ho, hD, hx, hmp⟩ := HO.out
      have o1 := only_turned hturn1
      have s1 : SetAt w1 b (n + (k + 1)) (fun z => z ∈ zs.take (k + 1) ∨ S z) := (SetAt.put hD hmp hown1).same (fun z => by
        rw [List.take_succ_eq_append_getElem hlt, ← hx]
        simp only [List.mem_append, List.mem_singleton]
        constructor
        · rintro (h | h | h)
          · exact .inl (.inr h)
          · exact .inl (.inl h)
          · exact .inr h
        · rintro ((h | h) | h)
          · exact .inr (.inl h)
          · exact .inl h
          · exact .inr (.inr h))
      have HH := Lib.hid (And.intro s1 (ho.trans o1))
      clear hturn1 hown1 hown o1 s1 ho hD hmp hx
      go_wp2
      go_roundw
      case rel => exact ⟨k + 1, by omega, by go_num, HH.out.1, HH.out.2⟩
      case measure => simp [vI]; omega
    · obtain rfl : k = zs.length := by omega
      have HH := Lib.hid (And.intro hs ho)
      clear hs ho
      go_wp2
      go_end0
      exact ⟨rfl, HH.out.1.same (by simp), HH.out.2⟩

set_option maxRecDepth 100000 in
set_option maxHeartbeats 1000000 in
theorem set_meets (b n : Nat) (S : Int → Prop) (at_ size : Int) (r : Bool) (w : World) (hS : SetAt w b n S) (h0 : 0 ≤ at_) (h1 : at_ ≤ 1099511627776) (h2 : 0 ≤ size) (h3 : size ≤ 1099511627776) (hr : r = true ↔ ∃ x, S x ∧ at_ ≤ x ∧ x - at_ ≤ size) :
    Calls Tryz.prog 402 #[.map (some b), .agg #[.int .i64 at_, .int .i64 size]] w fun e w' => e = .returned (.bool r) ∧ Below w.heap.size w w' := by
  obtain ⟨D, hown, hD⟩ := hS
  have hbl := hown.lt
  have HH := Lib.hid (And.intro hD hr)
  clear hD hr
  have e1 : (w.alloc (.cells #[.int .i64 at_, .int .i64 size] 49)).heap.size = w.heap.size + 1 := by simp
  go_enter Tryz.func402, Tryz.ntmps402
  go_wp2_with (first
    | (at_range; refine wpList_range_own _ rfl _ 127 rfl 3 196 int_key Tryz.underlying127 unitElem b n D rfl (hown.alloc _) ?_; intro w0 hrg0 hg0 hs0)
    | go_in)
  go_frame
  rw [e1] at hrg0 hs0 ⊢
  have hb0 : w0.heap[w.heap.size]? = some (.cells #[.int .i64 at_, .int .i64 size] 49 (0, 0)) := (hg0.block _ (by rw [e1]; omega) (by simp)).trans (heap_alloc_new _ _)
  have hB0 : Below w.heap.size w w0 := ((Below.refl _ _).alloc (Nat.le_refl _) _).grown hg0 (by simp) (fun j hj => by cases hj)
  go_loopw [4, 5, 6] (fun r5 r6 r7 wr => ∃ (left : Lit → Bool) (cnt : Nat), wr.ranges Tryz.prog 3 unitElem b (w.heap.size + 1) n D left cnt ∧ (∀ x, Maps.has D (.int .i64 x) = true → left (.int .i64 x) = false → ¬ (at_ ≤ x ∧ x - at_ ≤ size)) ∧
      wr.heap[w.heap.size]? = some (.cells #[.int .i64 at_, .int .i64 size] 49 (0, 0)) ∧ Below w.heap.size w wr) (fun _ _ _ wr => wr.rangeLeft b (w.heap.size + 1))
  case atStart => exact ⟨_, _, hrg0, (fun x hx hl => by rw [hx] at hl; cases hl), hb0, hB0⟩
  case round =>
    obtain ⟨left, cnt, hrg, hno, hbx, hB⟩ := hrel
    have c0 := cell_in hbx 0 rfl
    have c1 := cell_in hbx 1 rfl
    have HR := Lib.hid (And.intro hno (And.intro hbx hB))
    clear hno hbx hB
    go_wp2_with (first
      | (at_next; refine wpList_next_ranges _ rfl _ rfl 3 int_key unitElem (Value.int .i64) (fun _ : Unit => Value.agg #[]) (fun key kl hkey => by obtain ⟨x, rfl, _⟩ := Maps.keyOf_int_inv Tryz.underlying3 hkey; exact ⟨x, rfl⟩) (fun v y hv => ⟨(), (unitElem_inv hv).1⟩) b (w.heap.size + 1) n _ _ _ rfl hrg ?_ ?_)
      | go_in)
    · intro hc0 hl0
      go_wp2
      go_ret
      obtain ⟨hno, hbx, hB⟩ := HR.out
      obtain ⟨hD, hr⟩ := HH.out
      have : r = false := by
        cases r with
        | false => rfl
        | true =>
          obtain ⟨x, hx, h4, h5⟩ := hr.1 rfl
          exact absurd ⟨h4, h5⟩ (hno x ((hD x).2 hx) (hl0 _))
      rw [this]
      exact ⟨rfl, hB⟩
    · intro x c kl y w1 cnt1 hkey hlx hv hat hrg1 hlt hg1 hs1 hen
      obtain ⟨x', ex, rfl, hwx⟩ := Maps.keyOf_int_inv Tryz.underlying3 hkey
      cases ex
      obtain ⟨hno, hbx, hB⟩ := HR.out
      have hbx1 := (hg1.block _ (lt_of_block hbx) (by simp)).trans hbx
      have hB1 := hB.grown hg1 hB.size (fun j hj => by cases hj; exact Nat.le_succ _)
      have hx : S x := (HH.out.1 x).1 (has_true_of_atKey hat)
      have hx1 : -9223372036854775808 ≤ x ∧ x ≤ 9223372036854775807 := by simpa [Lit.wf, IntKind.min, IntKind.max, IntKind.signed, IntKind.bits] using hwx
      have d0 := cell_in hbx1 0 rfl
      have d1 := cell_in hbx1 1 rfl
      have HN := Lib.hid (And.intro hno (And.intro hbx1 (And.intro hB1 (And.intro hrg1 (And.intro hrg hlt)))))
      clear hno hbx hbx1 hB hB1 hat hkey hlx hg1 hrg hrg1 hlt hs1 hwx c0 c1 HR hv
      have go_on : ¬ (at_ ≤ x ∧ x - at_ ≤ size) → ∀ z, Maps.has D (.int .i64 z) = true → (left (.int .i64 z) && !(Lit.int .i64 z).sameKey (.int .i64 x)) = false → ¬ (at_ ≤ z ∧ z - at_ ≤ size) := by
        intro hx z hz hl
        cases hlz : left (.int .i64 z) with
        | false => exact HN.out.1 z hz hlz
        | true =>
          rw [hlz] at hl
          have : (Lit.int .i64 z).sameKey (.int .i64 x) = true := by simpa using hl
          have e := WideAt.sameKey_eq this
          injection e with _ e
          subst e
          exact hx
      have HG := Lib.hid go_on
      clear go_on
      by_cases g1 : at_ ≤ x
      · have hwr : IntKind.i64.wrap (x - at_) = x - at_ := IntWalk.i64_in _ (by omega)
        have g2 : 0 ≤ x - at_ := by omega
        by_cases g3 : x - at_ ≤ size
        · go_wp2
          go_ret
          rw [HH.out.2.2 ⟨x, hx, g1, g3⟩]
          exact ⟨rfl, HN.out.2.2.1⟩
        · go_wp2
          go_roundw
          case rel => exact ⟨_, cnt1, HN.out.2.2.2.1, HG.out (fun h => g3 h.2), HN.out.2.1, HN.out.2.2.1⟩
          case measure => rw [HN.out.2.2.2.1.left_eq, HN.out.2.2.2.2.1.left_eq]; exact HN.out.2.2.2.2.2
      · go_wp2
        go_roundw
        case rel => exact ⟨_, cnt1, HN.out.2.2.2.1, HG.out (fun h => g1 h.1), HN.out.2.1, HN.out.2.2.1⟩
        case measure => rw [HN.out.2.2.2.1.left_eq, HN.out.2.2.2.2.1.left_eq]; exact HN.out.2.2.2.2.2
end Go.Proofs.YtkbilipgidcgeaaGreatDoor
