/- convert: restore. -/
import Derived.Test.YtkbilipgidcgeaaGreatDoorW30
import Derived.Test.YtkbilipgidcgeaaGreatDoorW08
import Derived.Test.YtkbilipgidcgeaaGreatDoorW26
set_option linter.unusedVariables false
set_option linter.unusedSimpArgs false
namespace Go.Proofs.YtkbilipgidcgeaaGreatDoor
open Go.RowKit
attribute [local go_sem] ext_cell ext_frozen

theorem areasCells_get (ps : List Part) : ∀ i (hi : i < ps.length) j, j < 5 → (areasCells ps)[i * 5 + j]? = (areaCells ps[i])[j]? := by
  induction ps with
  | nil => intro i hi; simp at hi
  | cons x l ih =>
    intro i hi j hj
    unfold areasCells at *
    cases i with
    | zero => simp only [List.flatMap_cons, Nat.zero_mul, Nat.zero_add, List.getElem_cons_zero]; rw [List.getElem?_append_left (by simp [areaCells]; omega)]
    | succ i =>
      simp only [List.flatMap_cons, List.getElem_cons_succ]
      rw [List.getElem?_append_right (by simp [areaCells]; omega), ← ih i (by simpa using hi) j hj]
      congr 1
      simp [areaCells]; omega

theorem lastAt_self {ps : List Part} (hA : AreasOk ps) (k : Nat) (hk : k < ps.length) : LastAt ps (ps[k].at_) k where
  lt := hk
  le := Int.le_refl _
  next := fun j hj hkj => hA.sorted k j hk hj hkj

theorem readL_whole {w : World} {s : Nat} {pv : Value} {ps : List Part} (h : SpaceAt w s pv ps) (k : Nat) (hk : k < ps.length) : readL ps[k] ps[k].at_ ps[k].size = ps[k].data := by
  obtain ⟨b1, b2, cur, b3, b4, b5⟩ := h.bytes.2 _ (List.getElem_mem hk)
  unfold readL
  rw [show (ps[k].at_ - ps[k].at_).toNat = 0 by omega, List.drop_zero, List.take_of_length_le (by omega)]

/-- Two lists of parts have the same areas. -/
structure Twin (ns ps : List Part) : Prop where
  len : ns.length = ps.length
  each : ∀ i (h : i < ns.length) (h' : i < ps.length), ns[i].at_ = ps[i].at_ ∧ ns[i].size = ps[i].size ∧ ns[i].kind = ps[i].kind ∧ ns[i].owner = ps[i].owner ∧ ns[i].mod = ps[i].mod

def withData (p n : Part) : Part := { p with data := n.data }
/-- The first k parts have the other memory's bytes. -/
def mixL (ps ns : List Part) (k : Nat) : List Part := (List.zipWith withData ps ns).take k ++ ps.drop k

theorem mixL_length {ps ns : List Part} (h : ns.length = ps.length) (k : Nat) (hk : k ≤ ps.length) : (mixL ps ns k).length = ps.length := by
  simp [mixL, List.length_zipWith, h]; omega
theorem mixL_get {ps ns : List Part} (h : ns.length = ps.length) (k : Nat) (hk : k < ps.length) : (mixL ps ns k)[k]'(by rw [mixL_length h k (by omega)]; exact hk) = ps[k] := by
  unfold mixL
  have hl : ((List.zipWith withData ps ns).take k).length = k := by simp [List.length_zipWith, h]; omega
  rw [List.getElem_append_right (by omega)]
  simp [hl]
theorem mixL_set {ps ns : List Part} (h : ns.length = ps.length) (k : Nat) (hk : k < ps.length) : (mixL ps ns k).set k (withData ps[k] (ns[k]'(by omega))) = mixL ps ns (k + 1) := by
  unfold mixL
  have hz : (List.zipWith withData ps ns).length = ps.length := by simp [List.length_zipWith, h]
  have hl : ((List.zipWith withData ps ns).take k).length = k := by simp [hz]; omega
  rw [List.set_append_right _ _ (by omega), hl, Nat.sub_self, List.drop_eq_getElem_cons hk, List.set_cons_zero, List.take_succ_eq_append_getElem (by omega)]
  simp [List.getElem_zipWith]

set_option maxRecDepth 100000 in
set_option maxHeartbeats 2000000 in
theorem crestore (s s2 g cap g2 cap2 : Nat) (ps ns : List Part) (w : World) (hA : AreasOk ps) (hAn : AreasOk ns) (hsp : SpaceAt w s (.slice (some ⟨g, 0, none⟩) ps.length cap) ps) (hs2 : SpaceAt w s2 (.slice (some ⟨g2, 0, none⟩) ns.length cap2) ns) (ht : Twin ns ps) (hne : 0 < ns.length)
    (hd : ∀ b, spaceFoot s2 (.slice (some ⟨g2, 0, none⟩) ns.length cap2) ns b → ¬ ∃ p ∈ ps, p.blk = b) :
    Calls Tryz.prog 37 #[.pointer (some ⟨s, 0, none⟩), .pointer (some ⟨s2, 0, none⟩)] w fun e w' => e = .returned (.tuple #[]) ∧ Only (fun b => ∃ p ∈ ps, p.blk = b) w w' ∧ SpaceAt w' s (.slice (some ⟨g, 0, none⟩) ps.length cap) (List.zipWith withData ps ns) := by
  have hfew := hAn.few
  have hbl : ∀ p ∈ ps, p.blk < w.heap.size := fun p hp => hsp.lt _ (.inr (.inr ⟨p, hp, rfl⟩))
  have HH := Lib.hid (And.intro hA (And.intro hAn (And.intro hsp (And.intro hs2 (And.intro ht (And.intro hd hbl))))))
  clear hA hAn hsp hs2 ht hd hbl
  go_enter Tryz.func37, Tryz.ntmps37
  go_wp2_with fail
  go_at_call 52
  refine (areas_row s2 g2 cap2 ns _ hfew HH.out.2.2.2.1).mono ?_
  rintro e w1 ⟨hb1, v, rfl, hown⟩
  rcases hown.2 with ⟨h, h'⟩ | ⟨ga, ca, cur, rfl, h1, h2, h3⟩
  · omega
  have hl1 := hb1.size
  have lga := lt_of_block h2
  have HO := Lib.hid (show ∀ j u, (areasCells ns)[j]? = some u → w1.cell? ⟨ga, j, none⟩ = some u from fun j u hj => by have := hown.cells (g := ga) rfl j u hj; simpa [addr0] using this)
  have H1 := Lib.hid hb1
  clear hown h2 h3 hb1
  go_wp2_with fail
  go_loopw [11] (fun i wr => ∃ k : Nat, k ≤ ns.length ∧ i = .int .i64 k ∧ AreasOk (mixL ps ns k) ∧ SpaceAt wr s (.slice (some ⟨g, 0, none⟩) ps.length cap) (mixL ps ns k) ∧ Only (fun b => ∃ p ∈ ps, p.blk = b) w1 wr) (fun i _ => ns.length - (pI i).toNat)
  case atStart =>
    refine ⟨0, Nat.zero_le _, rfl, ?_, ?_, Only.refl _ _⟩
    · simpa [mixL] using HH.out.1
    · simpa [mixL] using HH.out.2.2.1.below H1.out
  case round =>
    obtain ⟨k, hk, rfl, hAm, hspm, ho⟩ := hrel
    have hgr : ga < wr.heap.size := Nat.lt_of_lt_of_le lga ho.size
    by_cases hlt : k < ns.length
    · obtain ⟨hA, hAn, hsp, hs2, ht, hd, hbl⟩ := HH.out
      have hkp : k < ps.length := by have := ht.len; omega
      have hnS : ¬ ∃ p ∈ ps, p.blk = ga := by rintro ⟨p, hp, e⟩; have := hbl p hp; omega
      have dd : ∀ j u, j < 5 → (areaCells ns[k])[j]? = some u → wr.cell? ⟨ga, k * 5 + j, none⟩ = some u := fun j u hj hu => by
        rw [ho.cell lga hnS]
        exact HO.out _ _ ((areasCells_get ns k hlt j hj).trans hu)
      have d0 := dd 0 _ (by omega) rfl
      have d1 := dd 1 _ (by omega) rfl
      have d2 := dd 2 _ (by omega) rfl
      have d3 := dd 3 _ (by omega) rfl
      have d4 := dd 4 _ (by omega) rfl
      rw [Nat.add_zero] at d0
      have vs2 := (hs2.below H1.out).kept ho hd
      obtain ⟨q, hq⟩ : ∃ q, q = ns[k] := ⟨_, rfl⟩
      rw [← hq] at d0 d1 d2 d3 d4
      have HR := Lib.hid (And.intro hAm (And.intro hspm (And.intro ho (And.intro vs2 hq))))
      clear dd hA hAn hsp hs2 ht hd hbl hAm hspm ho vs2 hq hnS
      go_wp2_with ((with_reducible refine at_store_law ?_); refine wpList_store_row rfl _ _ _ rfl _ _ rfl rfl _ _ (by (repeat (first | assumption | exact heap_alloc_new _ _ | refine block_old ?_ | refine block_drew ?_ | apply setRow_heap | (refine (setRow_other _ _ _ _ ?_).trans ?_; omega)))) (by kernel_rfl) (by rfl) (by simp [Value.oneCell']) ?_; (try simp only [World.setRow_alloc_new]))
      go_at_call 11
      have vB : Below wr.heap.size wr (wr.alloc (.cells #[.int .i64 q.at_, .int .i64 q.size, .int .i64 q.kind, .int .i64 q.owner, .int .i64 q.mod] 105)) := (Below.refl _ _).alloc (Nat.le_refl _) _
      have hqn := HR.out.2.2.2.2
      have hqa : q.at_ = ns[k].at_ := by rw [hqn]
      have hqs : q.size = ns[k].size := by rw [hqn]
      have hrd := read_at s2 _ ns q.at_ q.size _ HH.out.2.1 (HR.out.2.2.2.1.below vB) k (by rw [hqn]; exact lastAt_self HH.out.2.1 k hlt) (by omega) (by have := HH.out.2.1.each _ (List.getElem_mem hlt); omega)
      rw [show readL ns[k] q.at_ q.size = q.data by rw [hqn]; exact readL_whole HH.out.2.2.2.1 k hlt] at hrd
      refine hrd.mono ?_
      rintro e w3 ⟨hb3, rfl⟩
      have k5 := new_block hb3
      have e0 := cell_in k5 0 rfl
      have xB := below_call vB hb3
      have HX := Lib.hid xB
      clear vB hrd hb3 k5 xB hqa hqs
      have hm0 := HH.out.2.2.2.2.1
      have hkp : k < ps.length := by have := hm0.len; omega
      have hlm := mixL_length hm0.len k (by omega)
      have hgt := mixL_get hm0.len k hkp
      obtain ⟨t1, t2, t3, t4, t5⟩ := hm0.each k hlt hkp
      have hqd : (q.data.length : Int) = q.size := by
        obtain ⟨b1, b2, cur, b3, b4, b5⟩ := HH.out.2.2.2.1.bytes.2 _ (List.getElem_mem hlt)
        rw [hqn]; omega
      have hla : LastAt (mixL ps ns k) q.at_ k := by
        have := lastAt_self HR.out.1 k (by omega)
        rw [hgt, ← t1, ← hqn] at this; exact this
      have hw := write_at s _ (mixL ps ns k) q.at_ q.data w3 HR.out.1 (HR.out.2.1.below HX.out) k hla (by rw [hgt, hqd, ← t1, ← t2, ← hqn]; omega)
      have HW := Lib.hid hw
      clear hw hgt t1 t2 t3 t4 t5 hqd hm0 hqn
      go_wp2_with fail
      go_at_call 35
      refine HW.out.mono ?_
      rintro e w4 ⟨rfl, ho4, hsp4⟩
      have H4 := Lib.hid (And.intro ho4 hsp4)
      clear ho4 hsp4
      go_wp2
      go_roundw
      case rel =>
        obtain ⟨hAm, hspm, ho, vs2, hq⟩ := HR.out
        obtain ⟨ho4, hsp4⟩ := H4.out
        obtain ⟨hA, hAn, hsp, hs2, ht, hd, hbl⟩ := HH.out
        have hgt := mixL_get ht.len k hkp
        obtain ⟨t1, t2, t3, t4, t5⟩ := ht.each k hlt hkp
        have hput : ((mixL ps ns k)[k]'(by omega)).put q.at_ q.data = withData ps[k] ns[k] := by
          obtain ⟨b1, b2, cur, b3, b4, b5⟩ := hs2.bytes.2 _ (List.getElem_mem hlt)
          obtain ⟨c1, c2, cur', c3, c4, c5⟩ := hsp.bytes.2 _ (List.getElem_mem hkp)
          rw [hgt, hq]
          unfold Part.put withData putL
          rw [t1, show (ps[k].at_ - ps[k].at_).toNat = 0 by omega, List.take_zero, List.nil_append, List.drop_of_length_le (by omega), List.append_nil]
        refine ⟨k + 1, by omega, by go_num, ?_, ?_, (ho.trans (Only.of_below HX.out)).then ho4 ?_⟩
        · rw [← mixL_set ht.len k hkp, ← hput]; exact hAm.put k (by omega) _ _
        · rw [← mixL_set ht.len k hkp, ← hput]; exact hsp4
        · rintro b hb rfl
          exact ⟨ps[k], List.getElem_mem hkp, by rw [hgt]⟩
      case measure => simp [pI]; omega
    · obtain rfl : k = ns.length := by omega
      have HR := Lib.hid (And.intro hspm ho)
      clear hAm hspm ho
      go_wp2
      go_end0
      obtain ⟨hspm, ho⟩ := HR.out
      refine ⟨rfl, (Only.of_below H1.out).trans ho, ?_⟩
      have hl := HH.out.2.2.2.2.1.len
      have : mixL ps ns ns.length = List.zipWith withData ps ns := by
        unfold mixL
        rw [List.drop_of_length_le (by omega), List.append_nil, List.take_of_length_le (by simp [List.length_zipWith]; omega)]
      rw [this] at hspm
      exact hspm
end Go.Proofs.YtkbilipgidcgeaaGreatDoor
