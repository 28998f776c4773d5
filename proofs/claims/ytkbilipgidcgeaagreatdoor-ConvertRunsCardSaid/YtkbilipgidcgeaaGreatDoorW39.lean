/- linchpinlaw39.same at equal memories. -/
import Derived.Deep.QuietTactic
import Derived.BigQuiet
import Derived.Test.YtkbilipgidcgeaaGreatDoorW38
import Derived.Test.YtkbilipgidcgeaaGreatDoorW14
set_option linter.unusedVariables false
set_option linter.unusedSimpArgs false
namespace Go.Proofs.YtkbilipgidcgeaaGreatDoor
open Go.RowKit
attribute [local go_sem] ext_cell ext_frozen

theorem twin_cells {ns ps : List Part} (h : Twin ns ps) : areasCells ns = areasCells ps := by
  have : ns.map areaCells = ps.map areaCells := by
    apply List.ext_getElem
    · simpa using h.len
    · intro i h1 h2
      simp only [List.getElem_map, areaCells]
      obtain ⟨e1, e2, e3, e4, e5⟩ := h.each i (by simpa using h1) (by simpa using h2)
      rw [e1, e2, e3, e4, e5]
  unfold areasCells
  rw [List.flatMap_def, List.flatMap_def, this]

set_option maxRecDepth 100000 in
set_option maxHeartbeats 4000000 in
theorem lsame (p s bb l q s2 bb2 l2 g cap g2 cap2 : Nat) (th th2 : Value) (ps ns : List Part) (w : World) (hp : w.heap[p]? = some (.cells (procC s bb l th).toArray 81 (0, 0))) (hq : w.heap[q]? = some (.cells (procC s2 bb2 l2 th2).toArray 81 (0, 0)))
    (hA : AreasOk ps) (hAn : AreasOk ns) (hsp : SpaceAt w s (.slice (some ⟨g, 0, none⟩) ps.length cap) ps) (hs2 : SpaceAt w s2 (.slice (some ⟨g2, 0, none⟩) ns.length cap2) ns) (ht : Twin ns ps) (hne : 0 < ps.length) (hdt : ∀ i (h : i < ns.length) (h' : i < ps.length), ns[i].data = ps[i].data) :
    Calls Tryz.prog 19 #[.pointer (some ⟨p, 0, none⟩), .pointer (some ⟨q, 0, none⟩), .int .i64 0, .int .i64 0] w fun e w' => e = .returned (.bool true) ∧ Below w.heap.size w w' := by
  have hfew := hA.few
  have hln := ht.len
  have HH := Lib.hid (And.intro hp (And.intro hq (And.intro hA (And.intro hAn (And.intro hsp (And.intro hs2 (And.intro ht hdt)))))))
  have HT := Lib.hid (twin_cells ht)
  have HLN := Lib.hid hln
  clear hp hq hA hAn hsp hs2 ht hdt hln
  go_enter Tryz.func19, Tryz.ntmps19
  go_wp2_with fail
  go_at_call 9
  refine (pspace p s bb l th _ HH.out.1).mono ?_
  rintro e w1 ⟨rfl, rfl⟩
  go_wp2_with fail
  go_at_call 52
  refine (areas_row s g cap ps _ hfew HH.out.2.2.2.2.1).mono ?_
  rintro e w1 ⟨hb1, v, rfl, hown⟩
  rcases hown.2 with ⟨h, h'⟩ | ⟨ga, ca, cur, rfl, h1, h2, h3⟩
  · omega
  have lga := lt_of_block h2
  have HA1 := Lib.hid (show ∀ j u, (areasCells ps)[j]? = some u → w1.cell? ⟨ga, j, none⟩ = some u from fun j u hj => by have := hown.cells (g := ga) rfl j u hj; simpa [addr0] using this)
  have H1 := Lib.hid hb1
  clear hown h1 h2 h3 hb1
  go_wp2_with fail
  go_at_call 9
  refine (pspace q s2 bb2 l2 th2 _ ((H1.out.block _ (lt_of_block HH.out.2.1)).trans HH.out.2.1)).mono ?_
  rintro e w2 ⟨rfl, rfl⟩
  go_wp2_with fail
  go_at_call 52
  refine (areas_row s2 g2 cap2 ns _ (by rw [HLN.out]; exact hfew) (HH.out.2.2.2.2.2.1.below H1.out)).mono ?_
  rintro e w2 ⟨hb2, v, rfl, hown⟩
  rw [HT.out, HLN.out] at hown
  rcases hown.2 with ⟨h, h'⟩ | ⟨gb, cb, cur, h0, h1, h2, h3⟩
  · omega
  subst h0
  have lgb := lt_of_block h2
  have HB2 := Lib.hid (show ∀ j u, (areasCells ps)[j]? = some u → w2.cell? ⟨gb, j, none⟩ = some u from fun j u hj => by have := hown.cells (g := gb) rfl j u hj; simpa [addr0] using this)
  have HA2 := Lib.hid (show ∀ j u, (areasCells ps)[j]? = some u → w2.cell? ⟨ga, j, none⟩ = some u from fun j u hj => (hb2.cell (p := ⟨ga, j, none⟩) lga).trans (HA1.out j u hj))
  have lga2 : ga < w2.heap.size := Nat.lt_of_lt_of_le lga hb2.size
  have H2 := Lib.hid (H1.out.trans (hb2.mono H1.out.size))
  clear hown h1 h2 h3 hb2
  go_wp2_with fail
  go_at_call 53
  refine (same_areas ga ca gb cb ps _ HA2.out HB2.out hfew lga2 lgb).mono ?_
  rintro e w3 ⟨rfl, hb3⟩
  have HA3 := Lib.hid (show ∀ j u, (areasCells ps)[j]? = some u → w3.cell? ⟨ga, j, none⟩ = some u from fun j u hj => (hb3.cell (p := ⟨ga, j, none⟩) lga2).trans (HA2.out j u hj))
  have lga3 : ga < w3.heap.size := Nat.lt_of_lt_of_le lga2 hb3.size
  have H3 := Lib.hid (H2.out.trans (hb3.mono H2.out.size))
  clear hb3
  go_wp2_with fail
  go_loopw [10, 15] (fun i _ wr => ∃ k : Nat, k ≤ ps.length ∧ i = .int .i64 k ∧ Below w3.heap.size w3 wr) (fun i _ _ => ps.length - (pI i).toNat)
  case atStart => exact ⟨0, Nat.zero_le _, rfl, Below.refl _ _⟩
  case round =>
    obtain ⟨k, hk, rfl, hbl⟩ := hrel
    by_cases hlt : k < ps.length
    · obtain ⟨hp, hq, hA, hAn, hsp, hs2, ht, hdt⟩ := HH.out
      have hltn : k < ns.length := by rw [HLN.out]; exact hlt
      have d0 : wr.cell? ⟨ga, k * 5, none⟩ = some (.int .i64 ps[k].at_) := (hbl.cell (p := ⟨ga, k * 5, none⟩) lga3).trans (HA3.out _ _ ((areasCells_get ps k hlt 0 (by omega)).trans rfl))
      have d1 : wr.cell? ⟨ga, k * 5 + 1, none⟩ = some (.int .i64 ps[k].size) := (hbl.cell (p := ⟨ga, k * 5 + 1, none⟩) lga3).trans (HA3.out _ _ ((areasCells_get ps k hlt 1 (by omega)).trans rfl))
      have k0 : (0 : Int) ≤ (k : Int) := by omega
      have k1 : (k : Int) < (ps.length : Int) := by omega
      have rB : Below w.heap.size w wr := H3.out.trans (hbl.mono H3.out.size)
      have lgr : ga < wr.heap.size := Nat.lt_of_lt_of_le lga3 hbl.size
      obtain ⟨x, hx⟩ : ∃ x, x = ps[k] := ⟨_, rfl⟩
      obtain ⟨X, hX⟩ : ∃ X, X = (⟨ps[k].data.toArray⟩ : ByteArray) := ⟨_, rfl⟩
      obtain ⟨t1, t2, _⟩ := ht.each k hltn hlt
      have hez := hA.each _ (List.getElem_mem hlt)
      have hXs : X.size ≤ 1048576 := by
        obtain ⟨b1, b2, cur, b3, b4, b5⟩ := hsp.bytes.2 _ (List.getElem_mem hlt)
        rw [hX]; simp [ByteArray.size]; omega
      have r1 := readL_whole hsp k hlt
      have r2 := readL_whole hs2 k hltn
      have HR1 := Lib.hid (show ∀ W, Below wr.heap.size wr W → Calls Tryz.prog 11 #[.pointer (some ⟨s, 0, none⟩), .int .i64 x.at_, .int .i64 x.size] W fun e w' => Below W.heap.size W w' ∧ e = .returned (.tuple #[.string X, .int .i64 0]) from fun W hW => by
        have := read_at s _ ps ps[k].at_ ps[k].size W hA ((hsp.below rB).below hW) k (lastAt_self hA k hlt) (by omega) (by omega)
        rw [r1, ← hX] at this
        rw [hx]
        exact this)
      have HR2 := Lib.hid (show ∀ W, Below wr.heap.size wr W → Calls Tryz.prog 11 #[.pointer (some ⟨s2, 0, none⟩), .int .i64 x.at_, .int .i64 x.size] W fun e w' => Below W.heap.size W w' ∧ e = .returned (.tuple #[.string X, .int .i64 0]) from fun W hW => by
        have := read_at s2 _ ns ns[k].at_ ns[k].size W hAn ((hs2.below rB).below hW) k (lastAt_self hAn k hltn) (by omega) (by omega)
        rw [r2, hdt k hltn hlt, ← hX, t1, t2] at this
        rw [hx]
        exact this)
      rw [← hx] at d0 d1
      have HP1 := Lib.hid (And.intro ((rB.block _ (lt_of_block hp)).trans hp) ((rB.block _ (lt_of_block hq)).trans hq))
      have HBL := Lib.hid hbl
      clear hp hq hA hAn hsp hs2 ht hdt hx hX t1 t2 hez r1 r2 rB hbl
      go_wp2_with fail
      refine wp_region_facts [.val (.pointer (some ⟨p, 0, none⟩)), .val (.pointer (some ⟨s, 0, none⟩)), .val (.slice (some ⟨ga, 0, none⟩) ps.length ca), .val (.int .i64 k), .val (.pointer (some ⟨ga, k * 5, none⟩)), .val (.pointer (some ⟨ga, k * 5, none⟩)), .val (.int .i64 x.at_), .val (.slice (some ⟨ga, 0, none⟩) ps.length ca), .val (.int .i64 k), .val (.pointer (some ⟨ga, k * 5, none⟩)), .val (.pointer (some ⟨ga, k * 5 + 1, none⟩)), .val (.int .i64 x.size), .val (.tuple #[.string X, .int .i64 0]), .val (.tuple #[.string X, .int .i64 0]), .val (.string X), .val (.int .i64 0), .val (.string X), .val (.int .i64 0)] (by kernel_rfl) (by kernel_rfl) ?_ ?_
      · simp only [stepsAll, List.take, List.length]
        refine ⟨?_, ?_, ?_, ?_, ?_, ?_, ?_, ?_, ?_, ?_, ?_, ?_, ?_, ?_, ?_, ?_, ?_, ?_, ?_⟩
        all_goals first | trivial | (intro a wx hb hf hd)
        all_goals have hf0 : a.tmps[(0 : Nat)]?.getD undef = .pointer (some ⟨p, 0, none⟩) := (hf 0 (by decide +kernel)).trans rfl
        all_goals have hf9 : a.tmps[(9 : Nat)]?.getD undef = .slice (some ⟨ga, 0, none⟩) ps.length ca := (hf 9 (by decide +kernel)).trans rfl
        all_goals have hf10 : a.tmps[(10 : Nat)]?.getD undef = .int .i64 k := (hf 10 (by decide +kernel)).trans rfl
        · exact grow_tmp _ rfl ⟨hf0, fun h => by cases h⟩
        · have h32 : a.tmps[(32 : Nat)]?.getD undef = .pointer (some ⟨p, 0, none⟩) := hd 0 (by simp) (by kernel_rfl)
          refine grow_call (f := 9) (args := #[.pointer (some ⟨p, 0, none⟩)]) (by simp [execOp, h32, go_sem]) ?_
          refine (pspace p s bb l th _ ((hb.block _ (lt_of_block HP1.out.1)).trans HP1.out.1)).mono ?_
          rintro e w3 ⟨rfl, rfl⟩
          exact ⟨_, rfl, Below.refl _ _, rfl, fun h => by cases h⟩
        · exact grow_tmp _ rfl ⟨hf9, fun h => by cases h⟩
        · exact grow_tmp _ rfl ⟨hf10, fun h => by cases h⟩
        · have h34 : a.tmps[(34 : Nat)]?.getD undef = .slice (some ⟨ga, 0, none⟩) ps.length ca := hd 2 (by simp) (by kernel_rfl)
          have h35 : a.tmps[(35 : Nat)]?.getD undef = .int .i64 k := hd 3 (by simp) (by kernel_rfl)
          exact grow_value (v := .pointer (some ⟨ga, k * 5, none⟩)) (by simp [execOp, h34, h35, go_sem, k0, k1]) (Below.refl _ _) ⟨rfl, fun h => by cases h⟩
        · have h36 : a.tmps[(36 : Nat)]?.getD undef = .pointer (some ⟨ga, k * 5, none⟩) := hd 4 (by simp) (by kernel_rfl)
          exact grow_value (v := .pointer (some ⟨ga, k * 5, none⟩)) (by simp [execOp, h36, go_sem]) (Below.refl _ _) ⟨rfl, fun h => by cases h⟩
        · have h37 : a.tmps[(37 : Nat)]?.getD undef = .pointer (some ⟨ga, k * 5, none⟩) := hd 5 (by simp) (by kernel_rfl)
          have hc := (hb.cell (p := ⟨ga, k * 5, none⟩) lgr).trans d0
          exact grow_value (v := .int .i64 x.at_) (by simp [execOp, h37, hc, go_sem]) (Below.refl _ _) ⟨rfl, fun h => by cases h⟩
        · exact grow_tmp _ rfl ⟨hf9, fun h => by cases h⟩
        · exact grow_tmp _ rfl ⟨hf10, fun h => by cases h⟩
        · have h39 : a.tmps[(39 : Nat)]?.getD undef = .slice (some ⟨ga, 0, none⟩) ps.length ca := hd 7 (by simp) (by kernel_rfl)
          have h40 : a.tmps[(40 : Nat)]?.getD undef = .int .i64 k := hd 8 (by simp) (by kernel_rfl)
          exact grow_value (v := .pointer (some ⟨ga, k * 5, none⟩)) (by simp [execOp, h39, h40, go_sem, k0, k1]) (Below.refl _ _) ⟨rfl, fun h => by cases h⟩
        · have h41 : a.tmps[(41 : Nat)]?.getD undef = .pointer (some ⟨ga, k * 5, none⟩) := hd 9 (by simp) (by kernel_rfl)
          exact grow_value (v := .pointer (some ⟨ga, k * 5 + 1, none⟩)) (by simp [execOp, h41, go_sem]) (Below.refl _ _) ⟨rfl, fun h => by cases h⟩
        · have h42 : a.tmps[(42 : Nat)]?.getD undef = .pointer (some ⟨ga, k * 5 + 1, none⟩) := hd 10 (by simp) (by kernel_rfl)
          have hc := (hb.cell (p := ⟨ga, k * 5 + 1, none⟩) lgr).trans d1
          exact grow_value (v := .int .i64 x.size) (by simp [execOp, h42, hc, go_sem]) (Below.refl _ _) ⟨rfl, fun h => by cases h⟩
        · have h33 : a.tmps[(33 : Nat)]?.getD undef = .pointer (some ⟨s, 0, none⟩) := hd 1 (by simp) (by kernel_rfl)
          have h38 : a.tmps[(38 : Nat)]?.getD undef = .int .i64 x.at_ := hd 6 (by simp) (by kernel_rfl)
          have h43 : a.tmps[(43 : Nat)]?.getD undef = .int .i64 x.size := hd 11 (by simp) (by kernel_rfl)
          refine grow_call (f := 11) (args := #[.pointer (some ⟨s, 0, none⟩), .int .i64 x.at_, .int .i64 x.size]) (by simp [execOp, h33, h38, h43, go_sem]) ?_
          refine (HR1.out _ hb).mono ?_
          rintro e w3 ⟨hb3, rfl⟩
          exact ⟨_, rfl, hb3, rfl, fun h => by cases h⟩
        · have h44 : a.tmps[(44 : Nat)]?.getD undef = .tuple #[.string X, .int .i64 0] := hd 12 (by simp) (by kernel_rfl)
          exact grow_tmp _ rfl ⟨h44, fun h => by cases h⟩
        · have h31 : a.tmps[(31 : Nat)]?.getD undef = .tuple #[.string X, .int .i64 0] := hd 13 (by simp) (by kernel_rfl)
          exact grow_value (v := .string X) (by simp [execOp, h31, go_sem]) (Below.refl _ _) ⟨rfl, fun h => by cases h⟩
        · have h31 : a.tmps[(31 : Nat)]?.getD undef = .tuple #[.string X, .int .i64 0] := hd 13 (by simp) (by kernel_rfl)
          exact grow_value (v := .int .i64 0) (by simp [execOp, h31, go_sem]) (Below.refl _ _) ⟨rfl, fun h => by cases h⟩
        · have h45 : a.tmps[(45 : Nat)]?.getD undef = .string X := hd 14 (by simp) (by kernel_rfl)
          exact grow_value (v := .string X) (by simp [execOp, h45, go_sem]) (Below.refl _ _) ⟨rfl, fun h => by cases h⟩
        · have h46 : a.tmps[(46 : Nat)]?.getD undef = .int .i64 0 := hd 15 (by simp) (by kernel_rfl)
          exact grow_value (v := .int .i64 0) (by simp [execOp, h46, go_sem]) (Below.refl _ _) ⟨rfl, fun h => by cases h⟩
      · intro fx w4 hb4 hs hn hne
        have g32 : fx 32 = .pointer (some ⟨p, 0, none⟩) := hs 0 (by simp)
        have g33 : fx 33 = .pointer (some ⟨s, 0, none⟩) := hs 1 (by simp)
        have g34 : fx 34 = .slice (some ⟨ga, 0, none⟩) ps.length ca := hs 2 (by simp)
        have g35 : fx 35 = .int .i64 k := hs 3 (by simp)
        have g36 : fx 36 = .pointer (some ⟨ga, k * 5, none⟩) := hs 4 (by simp)
        have g37 : fx 37 = .pointer (some ⟨ga, k * 5, none⟩) := hs 5 (by simp)
        have g38 : fx 38 = .int .i64 x.at_ := hs 6 (by simp)
        have g39 : fx 39 = .slice (some ⟨ga, 0, none⟩) ps.length ca := hs 7 (by simp)
        have g40 : fx 40 = .int .i64 k := hs 8 (by simp)
        have g41 : fx 41 = .pointer (some ⟨ga, k * 5, none⟩) := hs 9 (by simp)
        have g42 : fx 42 = .pointer (some ⟨ga, k * 5 + 1, none⟩) := hs 10 (by simp)
        have g43 : fx 43 = .int .i64 x.size := hs 11 (by simp)
        have g44 : fx 44 = .tuple #[.string X, .int .i64 0] := hs 12 (by simp)
        have g31 : fx 31 = .tuple #[.string X, .int .i64 0] := hs 13 (by simp)
        have g45 : fx 45 = .string X := hs 14 (by simp)
        have g46 : fx 46 = .int .i64 0 := hs 15 (by simp)
        have g11 : fx 11 = .string X := hs 16 (by simp)
        have g12 : fx 12 = .int .i64 0 := hs 17 (by simp)
        rw [show (List.range (List.length _)).map (dstOf _) = [32, 33, 34, 35, 36, 37, 38, 39, 40, 41, 42, 43, 44, 31, 45, 46, 11, 12] from by kernel_rfl]
        simp only [actOf, List.foldl, Act.put, List.drop, List.length, g32, g33, g34, g35, g36, g37, g38, g39, g40, g41, g42, g43, g44, g31, g45, g46, g11, g12, List.setIfInBounds_toArray, List.set_cons_zero, List.set_cons_succ]
        clear hs hn hne g32 g33 g34 g35 g36 g37 g38 g39 g40 g41 g42 g43 g44 g31 g45 g46 g11 g12
        have e0 := (hb4.cell (p := ⟨ga, k * 5, none⟩) lgr).trans d0
        have e1 := (hb4.cell (p := ⟨ga, k * 5 + 1, none⟩) lgr).trans d1
        have lgr4 : ga < w4.heap.size := Nat.lt_of_lt_of_le lgr hb4.size
        have HP2 := Lib.hid (show w4.heap[q]? = some (.cells (procC s2 bb2 l2 th2).toArray 81 (0, 0)) ∧ True from ⟨(hb4.block _ (lt_of_block HP1.out.2)).trans HP1.out.2, trivial⟩)
        have HR4 := Lib.hid (show ∀ W, Below w4.heap.size w4 W → Calls Tryz.prog 11 #[.pointer (some ⟨s2, 0, none⟩), .int .i64 x.at_, .int .i64 x.size] W fun e w' => Below W.heap.size W w' ∧ e = .returned (.tuple #[.string X, .int .i64 0]) from fun W hW => HR2.out W (below_call hb4 hW))
        have HB4 := Lib.hid hb4
        clear hb4 d0 d1
        go_wp2_with fail
        refine wp_region_facts [.val (.pointer (some ⟨q, 0, none⟩)), .val (.pointer (some ⟨s2, 0, none⟩)), .val (.slice (some ⟨ga, 0, none⟩) ps.length ca), .val (.int .i64 k), .val (.pointer (some ⟨ga, k * 5, none⟩)), .val (.pointer (some ⟨ga, k * 5, none⟩)), .val (.int .i64 x.at_), .val (.slice (some ⟨ga, 0, none⟩) ps.length ca), .val (.int .i64 k), .val (.pointer (some ⟨ga, k * 5, none⟩)), .val (.pointer (some ⟨ga, k * 5 + 1, none⟩)), .val (.int .i64 x.size), .val (.tuple #[.string X, .int .i64 0]), .val (.tuple #[.string X, .int .i64 0]), .val (.string X), .val (.int .i64 0), .val (.string X), .val (.int .i64 0)] (by kernel_rfl) (by kernel_rfl) ?_ ?_
        · simp only [stepsAll, List.take, List.length]
          refine ⟨?_, ?_, ?_, ?_, ?_, ?_, ?_, ?_, ?_, ?_, ?_, ?_, ?_, ?_, ?_, ?_, ?_, ?_, ?_⟩
          all_goals first | trivial | (intro a wx hb hf hd)
          all_goals have hf1 : a.tmps[(1 : Nat)]?.getD undef = .pointer (some ⟨q, 0, none⟩) := (hf 1 (by decide +kernel)).trans rfl
          all_goals have hf9 : a.tmps[(9 : Nat)]?.getD undef = .slice (some ⟨ga, 0, none⟩) ps.length ca := (hf 9 (by decide +kernel)).trans rfl
          all_goals have hf10 : a.tmps[(10 : Nat)]?.getD undef = .int .i64 k := (hf 10 (by decide +kernel)).trans rfl
          · exact grow_tmp _ rfl ⟨hf1, fun h => by cases h⟩
          · have h48 : a.tmps[(48 : Nat)]?.getD undef = .pointer (some ⟨q, 0, none⟩) := hd 0 (by simp) (by kernel_rfl)
            refine grow_call (f := 9) (args := #[.pointer (some ⟨q, 0, none⟩)]) (by simp [execOp, h48, go_sem]) ?_
            refine (pspace q s2 bb2 l2 th2 _ ((hb.block _ (lt_of_block HP2.out.1)).trans HP2.out.1)).mono ?_
            rintro e w3 ⟨rfl, rfl⟩
            exact ⟨_, rfl, Below.refl _ _, rfl, fun h => by cases h⟩
          · exact grow_tmp _ rfl ⟨hf9, fun h => by cases h⟩
          · exact grow_tmp _ rfl ⟨hf10, fun h => by cases h⟩
          · have h50 : a.tmps[(50 : Nat)]?.getD undef = .slice (some ⟨ga, 0, none⟩) ps.length ca := hd 2 (by simp) (by kernel_rfl)
            have h51 : a.tmps[(51 : Nat)]?.getD undef = .int .i64 k := hd 3 (by simp) (by kernel_rfl)
            exact grow_value (v := .pointer (some ⟨ga, k * 5, none⟩)) (by simp [execOp, h50, h51, go_sem, k0, k1]) (Below.refl _ _) ⟨rfl, fun h => by cases h⟩
          · have h52 : a.tmps[(52 : Nat)]?.getD undef = .pointer (some ⟨ga, k * 5, none⟩) := hd 4 (by simp) (by kernel_rfl)
            exact grow_value (v := .pointer (some ⟨ga, k * 5, none⟩)) (by simp [execOp, h52, go_sem]) (Below.refl _ _) ⟨rfl, fun h => by cases h⟩
          · have h53 : a.tmps[(53 : Nat)]?.getD undef = .pointer (some ⟨ga, k * 5, none⟩) := hd 5 (by simp) (by kernel_rfl)
            have hc := (hb.cell (p := ⟨ga, k * 5, none⟩) lgr4).trans e0
            exact grow_value (v := .int .i64 x.at_) (by simp [execOp, h53, hc, go_sem]) (Below.refl _ _) ⟨rfl, fun h => by cases h⟩
          · exact grow_tmp _ rfl ⟨hf9, fun h => by cases h⟩
          · exact grow_tmp _ rfl ⟨hf10, fun h => by cases h⟩
          · have h55 : a.tmps[(55 : Nat)]?.getD undef = .slice (some ⟨ga, 0, none⟩) ps.length ca := hd 7 (by simp) (by kernel_rfl)
            have h56 : a.tmps[(56 : Nat)]?.getD undef = .int .i64 k := hd 8 (by simp) (by kernel_rfl)
            exact grow_value (v := .pointer (some ⟨ga, k * 5, none⟩)) (by simp [execOp, h55, h56, go_sem, k0, k1]) (Below.refl _ _) ⟨rfl, fun h => by cases h⟩
          · have h57 : a.tmps[(57 : Nat)]?.getD undef = .pointer (some ⟨ga, k * 5, none⟩) := hd 9 (by simp) (by kernel_rfl)
            exact grow_value (v := .pointer (some ⟨ga, k * 5 + 1, none⟩)) (by simp [execOp, h57, go_sem]) (Below.refl _ _) ⟨rfl, fun h => by cases h⟩
          · have h58 : a.tmps[(58 : Nat)]?.getD undef = .pointer (some ⟨ga, k * 5 + 1, none⟩) := hd 10 (by simp) (by kernel_rfl)
            have hc := (hb.cell (p := ⟨ga, k * 5 + 1, none⟩) lgr4).trans e1
            exact grow_value (v := .int .i64 x.size) (by simp [execOp, h58, hc, go_sem]) (Below.refl _ _) ⟨rfl, fun h => by cases h⟩
          · have h49 : a.tmps[(49 : Nat)]?.getD undef = .pointer (some ⟨s2, 0, none⟩) := hd 1 (by simp) (by kernel_rfl)
            have h54 : a.tmps[(54 : Nat)]?.getD undef = .int .i64 x.at_ := hd 6 (by simp) (by kernel_rfl)
            have h59 : a.tmps[(59 : Nat)]?.getD undef = .int .i64 x.size := hd 11 (by simp) (by kernel_rfl)
            refine grow_call (f := 11) (args := #[.pointer (some ⟨s2, 0, none⟩), .int .i64 x.at_, .int .i64 x.size]) (by simp [execOp, h49, h54, h59, go_sem]) ?_
            refine (HR4.out _ hb).mono ?_
            rintro e w3 ⟨hb3, rfl⟩
            exact ⟨_, rfl, hb3, rfl, fun h => by cases h⟩
          · have h60 : a.tmps[(60 : Nat)]?.getD undef = .tuple #[.string X, .int .i64 0] := hd 12 (by simp) (by kernel_rfl)
            exact grow_tmp _ rfl ⟨h60, fun h => by cases h⟩
          · have h47 : a.tmps[(47 : Nat)]?.getD undef = .tuple #[.string X, .int .i64 0] := hd 13 (by simp) (by kernel_rfl)
            exact grow_value (v := .string X) (by simp [execOp, h47, go_sem]) (Below.refl _ _) ⟨rfl, fun h => by cases h⟩
          · have h47 : a.tmps[(47 : Nat)]?.getD undef = .tuple #[.string X, .int .i64 0] := hd 13 (by simp) (by kernel_rfl)
            exact grow_value (v := .int .i64 0) (by simp [execOp, h47, go_sem]) (Below.refl _ _) ⟨rfl, fun h => by cases h⟩
          · have h61 : a.tmps[(61 : Nat)]?.getD undef = .string X := hd 14 (by simp) (by kernel_rfl)
            exact grow_value (v := .string X) (by simp [execOp, h61, go_sem]) (Below.refl _ _) ⟨rfl, fun h => by cases h⟩
          · have h62 : a.tmps[(62 : Nat)]?.getD undef = .int .i64 0 := hd 15 (by simp) (by kernel_rfl)
            exact grow_value (v := .int .i64 0) (by simp [execOp, h62, go_sem]) (Below.refl _ _) ⟨rfl, fun h => by cases h⟩
        · intro fy w5 hb5 hs hn hne
          have g48 : fy 48 = .pointer (some ⟨q, 0, none⟩) := hs 0 (by simp)
          have g49 : fy 49 = .pointer (some ⟨s2, 0, none⟩) := hs 1 (by simp)
          have g50 : fy 50 = .slice (some ⟨ga, 0, none⟩) ps.length ca := hs 2 (by simp)
          have g51 : fy 51 = .int .i64 k := hs 3 (by simp)
          have g52 : fy 52 = .pointer (some ⟨ga, k * 5, none⟩) := hs 4 (by simp)
          have g53 : fy 53 = .pointer (some ⟨ga, k * 5, none⟩) := hs 5 (by simp)
          have g54 : fy 54 = .int .i64 x.at_ := hs 6 (by simp)
          have g55 : fy 55 = .slice (some ⟨ga, 0, none⟩) ps.length ca := hs 7 (by simp)
          have g56 : fy 56 = .int .i64 k := hs 8 (by simp)
          have g57 : fy 57 = .pointer (some ⟨ga, k * 5, none⟩) := hs 9 (by simp)
          have g58 : fy 58 = .pointer (some ⟨ga, k * 5 + 1, none⟩) := hs 10 (by simp)
          have g59 : fy 59 = .int .i64 x.size := hs 11 (by simp)
          have g60 : fy 60 = .tuple #[.string X, .int .i64 0] := hs 12 (by simp)
          have g47 : fy 47 = .tuple #[.string X, .int .i64 0] := hs 13 (by simp)
          have g61 : fy 61 = .string X := hs 14 (by simp)
          have g62 : fy 62 = .int .i64 0 := hs 15 (by simp)
          have g13 : fy 13 = .string X := hs 16 (by simp)
          have g14 : fy 14 = .int .i64 0 := hs 17 (by simp)
          rw [show (List.range (List.length _)).map (dstOf _) = [48, 49, 50, 51, 52, 53, 54, 55, 56, 57, 58, 59, 60, 47, 61, 62, 13, 14] from by kernel_rfl]
          simp only [actOf, List.foldl, Act.put, List.drop, List.length, g48, g49, g50, g51, g52, g53, g54, g55, g56, g57, g58, g59, g60, g47, g61, g62, g13, g14, List.setIfInBounds_toArray, List.set_cons_zero, List.set_cons_succ]
          clear hs hn hne g48 g49 g50 g51 g52 g53 g54 g55 g56 g57 g58 g59 g60 g47 g61 g62 g13 g14
          have HB5 := Lib.hid hb5
          clear hb5 e0 e1
          go_wp2_with fail
          go_loopw [15] (fun i wq => ∃ j : Nat, j ≤ X.size ∧ i = .int .i64 j ∧ Below w5.heap.size w5 wq) (fun i _ => X.size - (pI i).toNat)
          case atStart => exact ⟨0, Nat.zero_le _, rfl, Below.refl _ _⟩
          case round =>
            obtain ⟨j, hj, rfl, hbj⟩ := hrel
            have HJ := Lib.hid hbj
            clear hbj
            by_cases hlj : j < X.size
            · have j0 : (0 : Int) ≤ (j : Int) := by omega
              have j1 : (j : Int) < (X.size : Int) := by omega
              go_wp2
              go_quiet (fail)
              go_wp2
              go_roundw
              case rel => exact ⟨j + 1, by omega, by go_num, HJ.out.trans ((below_drewN _ _).mono HJ.out.size)⟩
              case measure => simp [pI]; omega
            · obtain rfl : j = X.size := by omega
              go_wp2
              go_roundw
              case rel => exact ⟨k + 1, by omega, by go_num, HBL.out.trans ((HB4.out.trans ((HB5.out.trans (HJ.out.mono HB5.out.size)).mono HB4.out.size)).mono HBL.out.size)⟩
              case measure => simp [pI]; omega
    · obtain rfl : k = ps.length := by omega
      have HB := Lib.hid hbl
      clear hbl
      go_wp2
      go_ret
      exact ⟨rfl, H3.out.trans (HB.out.mono H3.out.size)⟩
end Go.Proofs.YtkbilipgidcgeaaGreatDoor
