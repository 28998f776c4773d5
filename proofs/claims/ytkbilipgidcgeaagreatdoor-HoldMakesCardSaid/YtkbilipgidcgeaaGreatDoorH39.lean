/- Sets of ints: hold: cpu, sorted. -/
import Derived.Shelf.SlIterI.Nil
import Derived.Shelf.SortM.Plain
import Derived.Shelf.SortM.SortNone
import Derived.Sort.KeysCollected
import Derived.Test.YtkbilipgidcgeaaGreatDoorH21
import Derived.Test.YtkbilipgidcgeaaGreatDoorSetShelf
import Derived.Test.YtkbilipgidcgeaaGreatDoorKeysShelf
set_option linter.unusedVariables false
set_option linter.unusedSimpArgs false
namespace Go.Proofs.YtkbilipgidcgeaaGreatDoor
open Go.RowKit Go.Maps Go.Sort Go.Shelf Go.Proofs

theorem set_sorts (m : Nat) : AnyZI.SortsIn Tryz.prog Tryz.sortedA_ren Fence.wide m :=
  ⟨fun blk off cap ss W hH hblk hsz => callsIn_wide.2 (AnyM.slices_Sort_int Tryz.sortS blk off cap ss W hH hblk hsz),
   fun p cap W => callsIn_wide.2 (AnyM.slices_Sort_int_none Tryz.sortS p cap W)⟩

theorem int_keys_of {D : DataW Unit} {w : World} {b n : Nat} (h : w.ownsMap Tryz.prog 3 unitElem b n D) : (intKeys D).Nodup ∧ ∀ x, x ∈ intKeys D ↔ Maps.has D (.int .i64 x) = true := by
  obtain ⟨es, rfl, hk⟩ := h.keysOf
  obtain ⟨es', he, hp, _⟩ := h.entries int_key
  injection he with he
  subst he
  have hk' : ∀ p ∈ es, ∃ x, p.1 = .int .i64 x := fun p hp => by
    obtain ⟨key, hkey⟩ := hk p hp
    obtain ⟨x, _, h, _⟩ := Maps.keyOf_i64 Tryz.underlying3 hkey
    exact ⟨x, h⟩
  constructor
  · refine List.pairwise_map.2 (hp.imp_of_mem fun {p q} hp' hq' hne e => hne ?_)
    obtain ⟨a, ha⟩ := hk' p hp'
    obtain ⟨b, hb⟩ := hk' q hq'
    rw [ha, hb] at e ⊢
    exact congrArg _ e
  · intro x
    rw [has_eq, List.any_eq_true]
    show x ∈ es.map (fun p => Go.intOf p.1) ↔ _
    rw [List.mem_map]
    constructor
    · rintro ⟨p, hp', rfl⟩
      obtain ⟨a, ha⟩ := hk' p hp'
      exact ⟨p, hp', by rw [ha]; simp [Lit.sameKey, Go.intOf]⟩
    · rintro ⟨p, hp', hs⟩
      obtain ⟨a, ha⟩ := hk' p hp'
      rw [ha] at hs
      exact ⟨p, hp', by rw [ha]; simpa [Lit.sameKey, Go.intOf] using hs⟩

set_option maxRecDepth 100000 in
set_option maxHeartbeats 1000000 in
theorem sorted_raw (b nn : Nat) (D0 : DataW Unit) (w : World) (hown : w.ownsMap Tryz.prog 3 unitElem b nn D0) (hmax : Maps.size D0 ≤ maxLen) (hbytes : Maps.size D0 * 8 ≤ 140737488355328) :
    Calls Tryz.prog 46 #[.map (some b)] w fun e w' => ∃ (v : Value) (ss : List Int), e = .returned v ∧ ss.Perm (intKeys D0) ∧
      w'.ownsRow w.heap.size 3 1 v ss.length ((ss.mergeSort (fun x y => decide (x ≤ y))).map encZ) ∧ (v = .slice none 0 0 ↔ ss = []) ∧ Below w.heap.size w w' := by
  refine (callsIn_wide (n := 6)).1 ?_
  have hbl := hown.lt
  have hseq : SeqGives Fence.wide 2 Tryz.prog 183 #[.pointer (some ⟨w.heap.size, 0, none⟩)] encZ (fun ss => ss.Perm (intKeys D0)) (Maps.size D0) (w.alloc (.cells #[.map (some b)] 127)) :=
    AnyZI.keys_gives (ρ := Tryz.keysS_ren) { Tryz.keysS with } Fence.wide _ trivial rfl (by omega) w.heap.size b nn D0 _ (by simp) (by simp) (by
      obtain ⟨es, clock, hb, Ft, hs, hD⟩ := hown
      exact ⟨es, clock, (Below.heap_alloc _ _ b hbl).trans hb, Ft, hs, hD⟩)
  have cK : ∀ mb W, CallsIn Fence.wide 5 Tryz.prog 95 #[.map mb] W fun e w' => e = .returned (.func (.func 183) #[] #[.pointer (some ⟨W.heap.size, 0, none⟩)]) ∧ w' = W.alloc (.cells #[.map mb] 127) := fun mb W => AnyZI.keys_in Tryz.keysS Fence.wide 5 trivial rfl mb W
  have cS := AnyZI.sorted_in Tryz.sortedA Fence.wide 5 trivial trivial trivial trivial rfl (by omega) (set_sorts _) (enters_of Tryz.func182 (by kernel_rfl) rfl) 183 #[.pointer (some ⟨w.heap.size, 0, none⟩)] trivial (enters_of Tryz.func183 (by kernel_rfl) rfl) _ _ hmax hbytes _ hseq
  change CallsIn _ _ Tryz.prog 94 _ _ _ at cS
  have hfK : Fence.wide.fn 95 := trivial
  have hfS : Fence.wide.fn 94 := trivial
  refine callsIn_of_wp Tryz.func46 rfl trivial ?_ rfl
  simp only [Tryz.ntmps46, List.size_toArray, List.length_cons, List.length_nil, Nat.reduceAdd, Nat.reduceSub, Array.replicate_succ, Array.replicate_zero, List.push_toArray, List.append_toArray, List.nil_append, List.cons_append]
  gi_wp2_with (first
    | (gi_at_call 95; refine (cK _ _).mono ?_; rintro e w' ⟨rfl, rfl⟩)
    | (gi_at_call 94; refine cS.mono ?_; rintro e w' ⟨v, ss, rfl, hS, hrow, hnil, hb⟩))
  go_ret
  exact ⟨v, ss, rfl, hS, ownsRow_base_a hrow (by simp), hnil, ((Below.refl _ w).alloc (Nat.le_refl _) _).trans (hb.mono (by simp))⟩

/-- The set's numbers, each once. -/
theorem set_sorted (b n : Nat) (S : Int → Prop) (w : World) (hS : SetAt w b n S) (hn : n ≤ 1000000) :
    Calls Tryz.prog 46 #[.map (some b)] w fun e w' => ∃ (v : Value) (ss : List Int), e = .returned v ∧ ss.Nodup ∧ (∀ x, x ∈ ss ↔ S x) ∧ w'.ownsRow w.heap.size 3 1 v ss.length (ss.map encZ) ∧ (v = .slice none 0 0 ↔ ss = []) ∧ Below w.heap.size w w' := by
  obtain ⟨D, hown, hD⟩ := hS
  have hsz := hown.size_le
  obtain ⟨h1, h2⟩ := int_keys_of hown
  refine (sorted_raw b n D w hown (by unfold maxLen; omega) (by omega)).mono ?_
  rintro e w' ⟨v, ss, rfl, hp, hrow, hnil, hb⟩
  have hl : (ss.mergeSort (fun x y => decide (x ≤ y))).length = ss.length := List.length_mergeSort _
  refine ⟨v, ss.mergeSort (fun x y => decide (x ≤ y)), rfl, ?_, fun x => ?_, ?_, ?_, hb⟩
  · exact ((List.mergeSort_perm ss _).trans hp).nodup_iff.2 h1
  · rw [((List.mergeSort_perm ss _).trans hp).mem_iff, h2, hD]
  · rw [hl]; exact hrow
  · rw [hnil]
    constructor
    · rintro rfl; simp
    · intro h; exact List.eq_nil_of_length_eq_zero (by rw [← hl, h]; rfl)

attribute [local go_sem] ext_cell ext_frozen

set_option maxRecDepth 100000 in
set_option maxHeartbeats 1000000 in
theorem set_cpu (b n gc cap : Nat) (S : Int → Prop) (rs zs : List Int) (pc : Int) (w : World) (hS : SetAt w b n S) (hrs : rs.length = 16) (hz : IntsAt w gc 0 zs) (hwr : ∀ z ∈ rs, (Lit.int .i64 z).wf = true) (hwp : (Lit.int .i64 pc).wf = true) (hwz : ∀ z ∈ zs, (Lit.int .i64 z).wf = true) (hne : gc ≠ b) (hgl : gc < w.heap.size) (hmax : n + 17 + zs.length < 1000000) :
    Calls Tryz.prog 178 #[.map (some b), .agg (rs.map (Value.int .i64) ++ [Value.int .i64 pc]).toArray, .slice (some ⟨gc, 0, none⟩) zs.length cap] w fun e w' => e = .returned (.tuple #[]) ∧
      SetAt w' b (n + 17 + zs.length) (fun k => k ∈ rs ∨ k = pc ∨ k ∈ zs ∨ S k) ∧ Only (· = b) w w' := by
  have HH := Lib.hid (And.intro hS (And.intro hz (And.intro hwr (And.intro hwp hwz))))
  have hbl := hS.lt
  clear hS hz hwr hwp hwz
  obtain ⟨C, hC⟩ : ∃ C : List Value, C = (rs.map (Value.int .i64) ++ [Value.int .i64 pc]) := ⟨_, rfl⟩
  have hCl : C.length = 17 := by rw [hC]; simp [hrs]
  have hC16 : C[(16 : Nat)]? = some (.int .i64 pc) := by rw [hC, List.getElem?_append_right (by simp [hrs])]; simp [hrs]
  rw [← hC]
  have HC := Lib.hid (And.intro hC (And.intro hCl hC16))
  clear hC hCl hC16
  go_enter Tryz.func178, Tryz.ntmps178
  go_wp2_with fail
  go_at_call 93
  have h0 := set_add b n w.heap.size 0 16 S rs (w.alloc (.cells C.toArray 97)) (HH.out.1.below ((Below.refl _ _).alloc (Nat.le_refl _) _)) (fun j hj => by
    have := cell_l (heap_alloc_new w (.cells C.toArray 97)) j (v := .int .i64 rs[j]) (by rw [HC.out.1, List.getElem?_append_left (by simpa using hj)]; simp [hj])
    rw [Nat.zero_add]; exact this) HH.out.2.2.1 (by omega) (by simp) (by omega)
  rw [hrs] at h0
  refine h0.mono ?_
  rintro e w1 ⟨rfl, hs1, ho1⟩
  have k1 := ho1.kept (heap_alloc_new w (.cells C.toArray 97)) (by omega)
  have c16 := cell_l k1 16 HC.out.2.2
  have l1 := ho1.size
  have e1 : (w.alloc (.cells C.toArray 97)).heap.size = w.heap.size + 1 := by simp
  rw [e1] at l1
  have o1 : Only (· = b) w w1 := (Only.of_below ((Below.refl _ _).alloc (Nat.le_refl _) _)).trans ho1
  have H1 := Lib.hid (And.intro hs1 o1)
  clear h0 hs1 ho1 k1 e1 o1
  go_wp2_with fail
  go_at_call 93
  refine (set_add b (n + 16) w1.heap.size 0 1 _ [pc] _ (H1.out.1.below ((Below.refl _ _).alloc (Nat.le_refl _) _)) (fun j hj => by
    obtain rfl : j = 0 := by simpa using hj
    exact cell_l (heap_alloc_new w1 (.cells [.int .i64 pc].toArray 3)) 0 rfl) (by simpa using HH.out.2.2.2.1) (by omega) (by simp) (by simp; omega)).mono ?_
  rintro e w2 ⟨rfl, hs2, ho2⟩
  have l2 := ho2.size
  have e2 : ∀ o, (w1.alloc o).heap.size = w1.heap.size + 1 := fun o => by simp
  rw [e2] at l2
  have o2 : Only (· = b) w w2 := H1.out.2.trans ((Only.of_below ((Below.refl _ _).alloc (Nat.le_refl _) _)).trans ho2)
  have H2 := Lib.hid (And.intro hs2 o2)
  clear hs2 ho2 o2 e2 c16
  go_wp2_with fail
  go_at_call 93
  refine (set_add b (n + 16 + 1) gc 0 cap _ zs _ H2.out.1 (fun j hj => (H2.out.2.cell hgl hne).trans (HH.out.2.1 j hj)) HH.out.2.2.2.2 hne (by omega) (by omega)).mono ?_
  rintro e w3 ⟨rfl, hs3, ho3⟩
  have H3 := Lib.hid (And.intro hs3 (H2.out.2.trans ho3))
  clear hs3 ho3
  go_wp2
  go_end0
  refine ⟨rfl, H3.out.1.same (fun k => ?_), H3.out.2⟩
  simp only [List.mem_singleton]
  constructor
  · rintro (h | h | h | h)
    · exact .inr (.inr (.inl h))
    · exact .inr (.inl h)
    · exact .inl h
    · exact .inr (.inr (.inr h))
  · rintro (h | h | h | h)
    · exact .inr (.inr (.inl h))
    · exact .inr (.inl h)
    · exact .inl h
    · exact .inr (.inr (.inr h))
end Go.Proofs.YtkbilipgidcgeaaGreatDoor
