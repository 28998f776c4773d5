/- load: place, its first parts. -/
import Derived.Deep.MidRow
import Derived.Test.YtkbilipgidcgeaaGreatDoorH26
import Derived.Test.YtkbilipgidcgeaaGreatDoorH06
import Derived.Test.YtkbilipgidcgeaaGreatDoorH07
set_option linter.unusedVariables false
set_option linter.unusedSimpArgs false
namespace Go.Proofs.YtkbilipgidcgeaaGreatDoor.Tiny
open Go.RowKit Go.ChangeMaps
attribute [local go_sem] ext_cell ext_frozen run_store_func mk_ints0 mk_ints1 mk_ints2 mk_lists0 mk_lists1 mk_lists2 ta_ints run_makeMap

theorem modC_get2 (B : ByteArray) (x y : Int) : (modC B x y)[(2 : Nat)]? = some (.int .i64 256) := by unfold modC labCells; rfl
theorem modC_get4 (B : ByteArray) (x y : Int) : (modC B x y)[(4 : Nat)]? = some (.int .i64 512) := by unfold modC labCells; rfl
theorem modC_get5 (B : ByteArray) (x y : Int) : (modC B x y)[(5 : Nat)]? = some (.string B) := by unfold modC labCells; rfl
theorem modC_get26 (B : ByteArray) (x y : Int) : (modC B x y)[(26 : Nat)]? = some (.int .i64 x) := by unfold modC labCells; rfl
theorem modC_set26 (B : ByteArray) (x y z : Int) : (modC B x y).set 26 (.int .i64 z) = modC B z y := by unfold modC labCells; rfl
theorem modC_img (B : ByteArray) (x y : Int) (j : Nat) (u : Value) (h : (labCells B).toList[j]? = some u) : (modC B x y)[j]? = some u := by
  unfold modC
  rw [List.getElem?_append_left (List.getElem?_eq_some_iff.1 h).1]; exact h
theorem lab_len (B : ByteArray) : (labCells B).toList.length = 26 := by unfold labCells; rfl
theorem lab_info (B : ByteArray) : (Tryz.prog.info? 45).map (·.size) = some (labCells B).toList.length := by unfold labCells; kernel_rfl

/-- The image within a module in memory. -/
theorem mod_load (B : ByteArray) (x y : Int) {w : World} {g : Nat} {f : Nat × Nat} (hg : w.heap[g]? = some (.cells (modC B x y).toArray 91 f)) :
    (loadVar 45 ⟨g, 0, none⟩).run Tryz.prog w = .ok (.agg (labCells B)) w := by
  have h := run_loadVar_mid (P := Tryz.prog) w g 0 45 (labCells B).toList _ (fun j v hv => by rw [Nat.zero_add]; exact cell_l hg j (modC_img B x y j v hv)) Tryz.underlying45 rfl (lab_info B)
  simpa using h

attribute [local irreducible] labCells modC

theorem areas_nil : AreasOk [] := ⟨by simp, by simp, by simp⟩
theorem areas_one (b : Nat) : AreasOk [newPart 512 256 0 0 0 b] := areas_nil.snoc (q := newPart 512 256 0 0 0 b) (by simp only [newPart]; decide) (by simp) (by simp)
theorem areas_two (b c : Nat) : AreasOk [newPart 512 256 0 0 0 b, newPart 768 256 1 0 0 c] := (areas_one b).snoc (q := newPart 768 256 1 0 0 c) (by simp only [newPart]; decide) (by intro p hp; simp only [List.mem_singleton] at hp; subst hp; simp only [newPart]; decide) (by simp)
theorem take_str (L : List UInt8) (h : L.length = 256) : (ByteArray.mk L.toArray).extract 0 256 = ⟨(L.take 256).toArray⟩ := by
  apply ByteArray.ext; simp [ByteArray.data_extract]
theorem drop_str (L : List UInt8) (h : L.length = 256) : ByteArray.empty = ⟨(L.drop 256).toArray⟩ := by rw [List.drop_eq_nil_of_le (by omega)]; rfl
theorem lab_size' {L : List UInt8} {B : ByteArray} (h : B = ⟨L.toArray⟩) (hl : L.length = 256) : B.size = 256 := by subst h; simp [ByteArray.size, hl]
theorem last0 {p q : Part} {a : Int} (h : p.at_ ≤ a) (h' : a < q.at_) : LastAt [p, q] a 0 where
  lt := by simp
  le := h
  next j hj hij := by
    simp at hj
    obtain rfl : j = 1 := by omega
    exact h'
theorem last1 {p q : Part} {a : Int} (h : q.at_ ≤ a) : LastAt [p, q] a 1 where
  lt := by simp
  le := h
  next j hj hij := by
    simp at hj
    omega
def codeP (L : List UInt8) (b : Nat) : Part := (newPart 512 256 0 0 0 b).put 512 (L.take 256)
def dataP (L : List UInt8) (b : Nat) : Part := (newPart 768 256 1 0 0 b).put 768 (L.drop 256)

set_option maxRecDepth 100000 in
set_option maxHeartbeats 2000000 in
theorem lplace (l s b st x mo th at_ : Nat) (L : List UInt8) (B : ByteArray) (hB : B = ⟨L.toArray⟩) (hL : L.length = 256) (w : World) (hl : w.heap[l]? = some (.cells (loaderC s b st (.slice none 0 0) (.slice none 0 0)).toArray 149 (0, 0)))
    (hx : w.heap[x]? = some (.cells (modC B 0 1).toArray 91 (0, 0))) (hsp : SpaceAt w s (.slice none 0 0) [])
    (hbb : w.heap[b]? = some (.cells (blocksC s mo th at_).toArray 146 (0, 0))) (hmo : w.heap[mo]? = some (.map #[] 0)) (hth : w.heap[th]? = some (.map #[] 0)) (nmt : mo ≠ th) :
    Calls Tryz.prog 150 #[.pointer (some ⟨l, 0, none⟩), .int .i64 0, .pointer (some ⟨x, 0, none⟩)] w fun e w' => e = .returned (.bool true) ∧ Only (fun k => k = s ∨ k = x ∨ k = mo) w w' ∧
      w'.heap[x]? = some (.cells (modC B 512 1).toArray 91 (0, 0)) ∧ w'.heap[mo]? = some (.map #[⟨.int .i64 0, .agg (labCells B), 0⟩] 1) ∧
      ∃ g cap b1 b2, SpaceAt w' s (.slice (some ⟨g, 0, none⟩) 2 cap) [codeP L b1, dataP L b2] ∧ w.heap.size ≤ g ∧ w.heap.size ≤ b1 ∧ w.heap.size ≤ b2 := by
  have nxs : x ≠ s := block_ne hx hsp.head (by decide)
  have nls : l ≠ s := block_ne hl hsp.head (by decide)
  have nlx : l ≠ x := block_ne hl hx (by decide)
  have nbs : b ≠ s := block_ne hbb hsp.head (by decide)
  have nbx : b ≠ x := block_ne hbb hx (by decide)
  have HN := Lib.hid (And.intro nxs (And.intro nls (And.intro nlx (And.intro nbs nbx))))
  have HM := Lib.hid (And.intro hbb (And.intro hmo (And.intro hth nmt)))
  clear nxs nls nlx nbs nbx hbb hmo hth nmt
  have HL := Lib.hid hl
  have HX := Lib.hid hx
  have HSP := Lib.hid hsp
  have HBL := Lib.hid (And.intro hB hL)
  clear hsp hB hL
  unfold loaderC at hl
  go_enter Tryz.func150, Tryz.ntmps150
  go_upto_region 1 with fail
  refine wp_region_facts [.val (.pointer (some ⟨x, 0, none⟩)), .val (.pointer (some ⟨l, 0, none⟩)), .val (.pointer (some ⟨l, 0, none⟩)), .val (.pointer (some ⟨l, 0, none⟩)), .val (.pointer (some ⟨s, 0, none⟩)), .val (.pointer (some ⟨x, 0, none⟩)), .val (.pointer (some ⟨x, 0, none⟩)), .val (.pointer (some ⟨x, 0, none⟩)), .val (.pointer (some ⟨x, 4, none⟩)), .val (.int .i64 512), .val (.int .i64 512)] (by kernel_rfl) (by kernel_rfl) ?_ ?_
  · simp only [stepsAll, List.take, List.length]
    refine ⟨?_, ?_, ?_, ?_, ?_, ?_, ?_, ?_, ?_, ?_, ?_, ?_⟩
    all_goals first | trivial | (intro a wr hb hf hd)
    all_goals have hf0 : a.tmps[(0 : Nat)]?.getD undef = .pointer (some ⟨l, 0, none⟩) := (hf 0 (by decide +kernel)).trans rfl
    all_goals have hf2 : a.tmps[(2 : Nat)]?.getD undef = .pointer (some ⟨x, 0, none⟩) := (hf 2 (by decide +kernel)).trans rfl
    · exact grow_tmp _ rfl ⟨hf2, fun h => by cases h⟩
    · exact grow_tmp _ rfl ⟨hf0, fun h => by cases h⟩
    · have h17 : a.tmps[(17 : Nat)]?.getD undef = .pointer (some ⟨l, 0, none⟩) := hd 1 (by simp) (by kernel_rfl)
      exact grow_value (v := .pointer (some ⟨l, 0, none⟩)) (by simp [execOp, h17, go_sem]) (Below.refl _ _) ⟨rfl, fun h => by cases h⟩
    · have h18 : a.tmps[(18 : Nat)]?.getD undef = .pointer (some ⟨l, 0, none⟩) := hd 2 (by simp) (by kernel_rfl)
      exact grow_value (v := .pointer (some ⟨l, 0, none⟩)) (by simp [execOp, h18, go_sem]) (Below.refl _ _) ⟨rfl, fun h => by cases h⟩
    · have h19 : a.tmps[(19 : Nat)]?.getD undef = .pointer (some ⟨l, 0, none⟩) := hd 3 (by simp) (by kernel_rfl)
      have hc := cell_l ((hb.block _ (lt_of_block hl)).trans hl) 0 (rfl)
      exact grow_value (v := .pointer (some ⟨s, 0, none⟩)) (by simp [execOp, h19, hc, go_sem]) (Below.refl _ _) ⟨rfl, fun h => by cases h⟩
    · exact grow_tmp _ rfl ⟨hf2, fun h => by cases h⟩
    · have h21 : a.tmps[(21 : Nat)]?.getD undef = .pointer (some ⟨x, 0, none⟩) := hd 5 (by simp) (by kernel_rfl)
      exact grow_value (v := .pointer (some ⟨x, 0, none⟩)) (by simp [execOp, h21, go_sem]) (Below.refl _ _) ⟨rfl, fun h => by cases h⟩
    · have h22 : a.tmps[(22 : Nat)]?.getD undef = .pointer (some ⟨x, 0, none⟩) := hd 6 (by simp) (by kernel_rfl)
      exact grow_value (v := .pointer (some ⟨x, 0, none⟩)) (by simp [execOp, h22, go_sem]) (Below.refl _ _) ⟨rfl, fun h => by cases h⟩
    · have h23 : a.tmps[(23 : Nat)]?.getD undef = .pointer (some ⟨x, 0, none⟩) := hd 7 (by simp) (by kernel_rfl)
      exact grow_value (v := .pointer (some ⟨x, 4, none⟩)) (by simp [execOp, h23, go_sem]) (Below.refl _ _) ⟨rfl, fun h => by cases h⟩
    · have h24 : a.tmps[(24 : Nat)]?.getD undef = .pointer (some ⟨x, 4, none⟩) := hd 8 (by simp) (by kernel_rfl)
      have hc := cell_l ((hb.block _ (lt_of_block hx)).trans hx) 4 (modC_get4 B 0 1)
      exact grow_value (v := .int .i64 512) (by simp [execOp, h24, hc, go_sem]) (Below.refl _ _) ⟨rfl, fun h => by cases h⟩
    · have h20 : a.tmps[(20 : Nat)]?.getD undef = .pointer (some ⟨s, 0, none⟩) := hd 4 (by simp) (by kernel_rfl)
      have h25 : a.tmps[(25 : Nat)]?.getD undef = .int .i64 512 := hd 9 (by simp) (by kernel_rfl)
      refine grow_call (f := 66) (args := #[.pointer (some ⟨s, 0, none⟩), .int .i64 512]) (by simp [execOp, h20, h25, go_sem]) ?_
      refine (free_none s 512 _ (HSP.out.below hb) (by omega) (by omega)).mono ?_
      rintro e w3 ⟨rfl, hb3⟩
      exact ⟨_, rfl, hb3, by rfl, fun h => by cases h⟩
  · intro fv w2 hb2 hs hn hne
    have g16 : fv 16 = .pointer (some ⟨x, 0, none⟩) := hs 0 (by simp)
    have g17 : fv 17 = .pointer (some ⟨l, 0, none⟩) := hs 1 (by simp)
    have g18 : fv 18 = .pointer (some ⟨l, 0, none⟩) := hs 2 (by simp)
    have g19 : fv 19 = .pointer (some ⟨l, 0, none⟩) := hs 3 (by simp)
    have g20 : fv 20 = .pointer (some ⟨s, 0, none⟩) := hs 4 (by simp)
    have g21 : fv 21 = .pointer (some ⟨x, 0, none⟩) := hs 5 (by simp)
    have g22 : fv 22 = .pointer (some ⟨x, 0, none⟩) := hs 6 (by simp)
    have g23 : fv 23 = .pointer (some ⟨x, 0, none⟩) := hs 7 (by simp)
    have g24 : fv 24 = .pointer (some ⟨x, 4, none⟩) := hs 8 (by simp)
    have g25 : fv 25 = .int .i64 512 := hs 9 (by simp)
    have g26 : fv 26 = .int .i64 512 := hs 10 (by simp)
    rw [show (List.range (List.length _)).map (dstOf _) = [16, 17, 18, 19, 20, 21, 22, 23, 24, 25, 26] from by kernel_rfl]
    simp only [actOf, List.foldl, Act.put, List.drop, List.length, g16, g17, g18, g19, g20, g21, g22, g23, g24, g25, g26, List.setIfInBounds_toArray, List.set_cons_zero, List.set_cons_succ]
    clear hs hn hne g16 g17 g18 g19 g20 g21 g22 g23 g24 g25 g26
    have xx := (hb2.block _ (lt_of_block hx)).trans hx
    have c26 := cell_l xx 26 (modC_get26 B 0 1)
    have f26 := free_in xx 26
    have HB := Lib.hid (And.intro hb2 xx)
    have sz := hb2.size
    have lx := lt_of_block hx
    clear hb2 xx hl hx
    go_upto_region 4 with fail
    refine name_world fun V hV => ?_
    have vo : Only (fun k => k = s ∨ k = x) w V := by rw [← hV]; exact (Only.of_below HB.out.1).setCell _ _ (.inl (.inr rfl))
    have vx : V.heap[x]? = some (.cells (modC B 512 1).toArray 91 (0, 0)) := by rw [← hV, ← modC_set26 B 0 1 512]; exact block_set HB.out.2 26 _
    have vsp : SpaceAt V s (.slice none 0 0) [] := by rw [← hV]; exact (HSP.out.below HB.out.1).kept ((Only.refl (· = x) _).setCell _ _ (.inl rfl)) (by rintro k (rfl | hk | ⟨p, hp, _⟩) hk'; exact HN.out.1 hk'.symm; simp [Value.ownBlock] at hk; simp at hp)
    have ls := lt_of_block vsp.head
    have HV := Lib.hid (And.intro vo vsp)
    clear vo vsp hV HB sz c26 f26
    refine wp_region_facts [.val (.int .i64 0), .val (.pointer (some ⟨x, 0, none⟩)), .val (.pointer (some ⟨x, 0, none⟩)), .val (.pointer (some ⟨x, 26, none⟩)), .val (.int .i64 512), .val (.pointer (some ⟨x, 0, none⟩)), .val (.pointer (some ⟨x, 0, none⟩)), .val (.pointer (some ⟨x, 0, none⟩)), .val (.agg (labCells B)), .more (fun v w' => ∃ g cap, v = .slice (some ⟨g, 0, none⟩) 2 cap ∧ w'.ownsRow V.heap.size 105 5 (.slice (some ⟨g, 0, none⟩) 2 cap) 2 (areaC 512 256 0 ++ areaC 768 256 1)) (fun v w' w'' hb h => by obtain ⟨g, cap, h1, h3⟩ := h; exact ⟨g, cap, h1, ownsRow_below' h3 hb⟩)] (by kernel_rfl) (by kernel_rfl) ?_ ?_
    · simp only [stepsAll, List.take, List.length]
      refine ⟨?_, ?_, ?_, ?_, ?_, ?_, ?_, ?_, ?_, ?_, ?_⟩
      all_goals first | trivial | (intro a wr hb hf hd)
      all_goals have hf1 : a.tmps[(1 : Nat)]?.getD undef = .int .i64 0 := (hf 1 (by decide +kernel)).trans rfl
      all_goals have hf2 : a.tmps[(2 : Nat)]?.getD undef = .pointer (some ⟨x, 0, none⟩) := (hf 2 (by decide +kernel)).trans rfl
      · exact grow_tmp _ rfl ⟨hf1, fun h => by cases h⟩
      · exact grow_tmp _ rfl ⟨hf2, fun h => by cases h⟩
      · have h35 : a.tmps[(35 : Nat)]?.getD undef = .pointer (some ⟨x, 0, none⟩) := hd 1 (by simp) (by kernel_rfl)
        exact grow_value (v := .pointer (some ⟨x, 0, none⟩)) (by simp [execOp, h35, go_sem]) (Below.refl _ _) ⟨rfl, fun h => by cases h⟩
      · have h36 : a.tmps[(36 : Nat)]?.getD undef = .pointer (some ⟨x, 0, none⟩) := hd 2 (by simp) (by kernel_rfl)
        exact grow_value (v := .pointer (some ⟨x, 26, none⟩)) (by simp [execOp, h36, go_sem]) (Below.refl _ _) ⟨rfl, fun h => by cases h⟩
      · have h37 : a.tmps[(37 : Nat)]?.getD undef = .pointer (some ⟨x, 26, none⟩) := hd 3 (by simp) (by kernel_rfl)
        have hc := cell_l ((hb.block _ (lt_of_block vx)).trans vx) 26 (modC_get26 B 512 1)
        exact grow_value (v := .int .i64 512) (by simp [execOp, h37, hc, go_sem]) (Below.refl _ _) ⟨rfl, fun h => by cases h⟩
      · exact grow_tmp _ rfl ⟨hf2, fun h => by cases h⟩
      · have h39 : a.tmps[(39 : Nat)]?.getD undef = .pointer (some ⟨x, 0, none⟩) := hd 5 (by simp) (by kernel_rfl)
        exact grow_value (v := .pointer (some ⟨x, 0, none⟩)) (by simp [execOp, h39, go_sem]) (Below.refl _ _) ⟨rfl, fun h => by cases h⟩
      · have h40 : a.tmps[(40 : Nat)]?.getD undef = .pointer (some ⟨x, 0, none⟩) := hd 6 (by simp) (by kernel_rfl)
        exact grow_value (v := .pointer (some ⟨x, 0, none⟩)) (by simp [execOp, h40, go_sem]) (Below.refl _ _) ⟨rfl, fun h => by cases h⟩
      · have h41 : a.tmps[(41 : Nat)]?.getD undef = .pointer (some ⟨x, 0, none⟩) := hd 7 (by simp) (by kernel_rfl)
        exact grow_value (v := .agg (labCells B)) (by simp [execOp, h41, Act.eval, Instr.loadAt, Instr.sureAddr, mod_load B 512 1 ((hb.block _ (lt_of_block vx)).trans vx)]) (Below.refl _ _) ⟨rfl, fun h => by cases h⟩
      · have h34 : a.tmps[(34 : Nat)]?.getD undef = .int .i64 0 := hd 0 (by simp) (by kernel_rfl)
        have h38 : a.tmps[(38 : Nat)]?.getD undef = .int .i64 512 := hd 4 (by simp) (by kernel_rfl)
        have h42 : a.tmps[(42 : Nat)]?.getD undef = .agg (labCells B) := hd 8 (by simp) (by kernel_rfl)
        refine grow_call (f := 203) (args := #[.int .i64 0, .int .i64 512, .agg (labCells B)]) (by simp [execOp, h34, h38, h42, go_sem]) ?_
        refine (lareas B _).mono ?_
        rintro e w3 ⟨g, cap, rfl, hb3, hown⟩
        exact ⟨_, rfl, hb3, ⟨g, cap, rfl, ownsRow_lower hown hb.size⟩, fun h => by cases h⟩
    · intro fw w3 hb3 hs hn hne
      have g34 : fw 34 = .int .i64 0 := hs 0 (by simp)
      have g35 : fw 35 = .pointer (some ⟨x, 0, none⟩) := hs 1 (by simp)
      have g36 : fw 36 = .pointer (some ⟨x, 0, none⟩) := hs 2 (by simp)
      have g37 : fw 37 = .pointer (some ⟨x, 26, none⟩) := hs 3 (by simp)
      have g38 : fw 38 = .int .i64 512 := hs 4 (by simp)
      have g39 : fw 39 = .pointer (some ⟨x, 0, none⟩) := hs 5 (by simp)
      have g40 : fw 40 = .pointer (some ⟨x, 0, none⟩) := hs 6 (by simp)
      have g41 : fw 41 = .pointer (some ⟨x, 0, none⟩) := hs 7 (by simp)
      have g42 : fw 42 = .agg (labCells B) := hs 8 (by simp)
      obtain ⟨g, cap, g43, hown⟩ : ∃ g cap, fw 43 = .slice (some ⟨g, 0, none⟩) 2 cap ∧ w3.ownsRow V.heap.size 105 5 (.slice (some ⟨g, 0, none⟩) 2 cap) 2 (areaC 512 256 0 ++ areaC 768 256 1) := hs 9 (by simp)
      rw [show (List.range (List.length _)).map (dstOf _) = [34, 35, 36, 37, 38, 39, 40, 41, 42, 43] from by kernel_rfl]
      simp only [actOf, List.foldl, Act.put, List.drop, List.length, g34, g35, g36, g37, g38, g39, g40, g41, g42, g43, List.setIfInBounds_toArray, List.set_cons_zero, List.set_cons_succ]
      clear hs hn hne g34 g35 g36 g37 g38 g39 g40 g41 g42 g43
      have lg := (ownsRow_lt hown).2.1
      have lgV := (ownsRow_lt hown).1
      have wo := HV.out.1.call hb3
      have wx := (hb3.block _ (lt_of_block vx)).trans vx
      have wsp := HV.out.2.below hb3
      have d0 := (row_cell hown 0 rfl).1; have d1 := (row_cell hown 1 rfl).1; have d2 := (row_cell hown 2 rfl).1; have d3 := (row_cell hown 3 rfl).1; have d4 := (row_cell hown 4 rfl).1
      have H3 := Lib.hid (And.intro wo (And.intro wx (And.intro wsp hown)))
      clear wo wx wsp hown hb3 vx HV
      go_wp2
      refine wp_loop_rounds 3 ?_
      rw [rounds_succ]
      go_upto_region 8 with (((with_reducible refine at_store_law ?_); refine wpList_store_row rfl _ _ _ rfl _ _ rfl rfl _ _ (by (repeat (first | assumption | exact heap_alloc_new _ _ | refine block_old ?_ | refine block_drew ?_ | apply setRow_heap | (refine (setRow_other _ _ _ _ ?_).trans ?_; omega)))) (by kernel_rfl) (by rfl) (by simp [Value.oneCell']) ?_; (try simp only [World.setRow_alloc_new])))
      refine name_world fun U0 hU => ?_
      have uB : Below w3.heap.size w3 U0 := by rw [← hU]; go_grown
      have ua : U0.heap[w3.heap.size]? = some (.cells #[.int .i64 512, .int .i64 256, .int .i64 0, .int .i64 0, .int .i64 0] 105 (0, 0)) := by rw [← hU]; exact heap_alloc_new _ _
      obtain ⟨po, px, psp, pown⟩ := H3.out
      have uo := po.call uB
      have ul := uo.kept HL.out (by rintro (h | h); exact HN.out.2.1 h; exact HN.out.2.2.1 h)
      unfold loaderC at ul
      have ux := (uB.block _ (lt_of_block px)).trans px
      have usp := psp.below uB
      have uown := ownsRow_below' pown uB
      have HU := Lib.hid (And.intro uo (And.intro ux (And.intro usp uown)))
      clear hU uB po px psp pown uo ux usp uown H3 d0 d1 d2 d3 d4 lg
      refine wp_region_facts [.val (.pointer (some ⟨l, 0, none⟩)), .val (.pointer (some ⟨l, 0, none⟩)), .val (.pointer (some ⟨l, 0, none⟩)), .val (.pointer (some ⟨s, 0, none⟩)), .val (.agg (#[.int .i64 512, .int .i64 256, .int .i64 0, .int .i64 0, .int .i64 0]))] (by kernel_rfl) (by kernel_rfl) ?_ ?_
      · simp only [stepsAll, List.take, List.length]
        refine ⟨?_, ?_, ?_, ?_, ?_, ?_⟩
        all_goals first | trivial | (intro a wr hb hf hd)
        all_goals have hf0 : a.tmps[(0 : Nat)]?.getD undef = .pointer (some ⟨l, 0, none⟩) := (hf 0 (by decide +kernel)).trans rfl
        all_goals have hf9 : a.tmps[(9 : Nat)]?.getD undef = .pointer (some ⟨w3.heap.size, 0, none⟩) := (hf 9 (by decide +kernel)).trans rfl
        · exact grow_tmp _ rfl ⟨hf0, fun h => by cases h⟩
        · have h51 : a.tmps[(51 : Nat)]?.getD undef = .pointer (some ⟨l, 0, none⟩) := hd 0 (by simp) (by kernel_rfl)
          exact grow_value (v := .pointer (some ⟨l, 0, none⟩)) (by simp [execOp, h51, go_sem]) (Below.refl _ _) ⟨rfl, fun h => by cases h⟩
        · have h52 : a.tmps[(52 : Nat)]?.getD undef = .pointer (some ⟨l, 0, none⟩) := hd 1 (by simp) (by kernel_rfl)
          exact grow_value (v := .pointer (some ⟨l, 0, none⟩)) (by simp [execOp, h52, go_sem]) (Below.refl _ _) ⟨rfl, fun h => by cases h⟩
        · have h53 : a.tmps[(53 : Nat)]?.getD undef = .pointer (some ⟨l, 0, none⟩) := hd 2 (by simp) (by kernel_rfl)
          have hc := cell_l ((hb.block _ (lt_of_block ul)).trans ul) 0 (rfl)
          exact grow_value (v := .pointer (some ⟨s, 0, none⟩)) (by simp [execOp, h53, hc, go_sem]) (Below.refl _ _) ⟨rfl, fun h => by cases h⟩
        · exact grow_load_row 9 105 rfl w3.heap.size hf9 _ _ _ _ ((hb.block _ (lt_of_block ua)).trans ua) Tryz.underlying105 rfl (by kernel_rfl) ⟨rfl, fun h => by cases h⟩
      · intro f80 w80 hb80 hs hn hne
        have g51 : f80 51 = .pointer (some ⟨l, 0, none⟩) := hs 0 (by simp)
        have g52 : f80 52 = .pointer (some ⟨l, 0, none⟩) := hs 1 (by simp)
        have g53 : f80 53 = .pointer (some ⟨l, 0, none⟩) := hs 2 (by simp)
        have g54 : f80 54 = .pointer (some ⟨s, 0, none⟩) := hs 3 (by simp)
        have g55 : f80 55 = .agg (#[.int .i64 512, .int .i64 256, .int .i64 0, .int .i64 0, .int .i64 0]) := hs 4 (by simp)
        rw [show (List.range (List.length _)).map (dstOf _) = [51, 52, 53, 54, 55] from by kernel_rfl]
        simp only [actOf, List.foldl, Act.put, List.drop, List.length, g51, g52, g53, g54, g55, List.setIfInBounds_toArray, List.set_cons_zero, List.set_cons_succ]
        clear hs hn hne g51 g52 g53 g54 g55
        go_wp2_with (go_at_call 67; refine (map_nil s 512 256 0 0 0 _ areas_nil (HU.out.2.2.1.below hb80) (by omega) (by omega) (by decide) (by omega) (by omega) (by omega) (by omega) (by omega) (by simp) (by simp)).mono ?_; rintro e W0 ⟨rfl, hmo0, pv0, bc, hsp0, hbc, hpv0⟩; have HW := Lib.hid (And.intro hmo0 (And.intro hsp0 (And.intro hbc hpv0))); clear hmo0 hsp0 hbc hpv0)
        obtain ⟨uo, ux, usp, uown⟩ := HU.out
        obtain ⟨hmo0, hsp0, hbc, hpv0⟩ := HW.out
        obtain ⟨g0, cap0, rfl, _⟩ := hsp0.parts (by simp)
        have lg0 : w80.heap.size ≤ g0 := by
          rcases hpv0 with h | ⟨q, h, hq⟩
          · simp [Value.ownBlock] at h
          · simp [Value.ownBlock] at h; omega
        have po := (uo.call hb80).then hmo0 (T := fun b => b = s ∨ Value.ownBlock (.slice none 0 0) = some b) (by rintro b _ (rfl | h); exact .inl rfl; simp [Value.ownBlock] at h)
        have px := hmo0.kept ((hb80.block _ (lt_of_block ux)).trans ux) (by rintro (h | h); exact HN.out.1 h; simp [Value.ownBlock] at h)
        have pown := ownsRow_kept (ownsRow_below' uown hb80) hmo0 (by rintro (h | h); omega; simp [Value.ownBlock] at h)
        have lbc : w.heap.size ≤ bc := Nat.le_trans (uo.call hb80).size hbc
        have lg0w : w.heap.size ≤ g0 := Nat.le_trans (uo.call hb80).size lg0
        have lg := (ownsRow_lt pown).2.1
        have d0 := (row_cell pown 5 rfl).1; have d1 := (row_cell pown 6 rfl).1; have d2 := (row_cell pown 7 rfl).1; have d3 := (row_cell pown 8 rfl).1; have d4 := (row_cell pown 9 rfl).1
        have H3 := Lib.hid (And.intro po (And.intro px (And.intro hsp0 pown)))
        clear po px hsp0 pown hmo0 hpv0 uo ux usp uown HU HW hb80 ul ua hbc
        rw [rounds_succ]
        go_upto_region 8 with (((with_reducible refine at_store_law ?_); refine wpList_store_row rfl _ _ _ rfl _ _ rfl rfl _ _ (by (repeat (first | assumption | exact heap_alloc_new _ _ | refine block_old ?_ | refine block_drew ?_ | apply setRow_heap | (refine (setRow_other _ _ _ _ ?_).trans ?_; omega)))) (by kernel_rfl) (by rfl) (by simp [Value.oneCell']) ?_; (try simp only [World.setRow_alloc_new])))
        refine name_world fun U1 hU => ?_
        have uB : Below W0.heap.size W0 U1 := by rw [← hU]; go_grown
        have ua : U1.heap[W0.heap.size]? = some (.cells #[.int .i64 768, .int .i64 256, .int .i64 1, .int .i64 0, .int .i64 0] 105 (0, 0)) := by rw [← hU]; exact heap_alloc_new _ _
        obtain ⟨po, px, psp, pown⟩ := H3.out
        have uo := po.call uB
        have ul := uo.kept HL.out (by rintro (h | h); exact HN.out.2.1 h; exact HN.out.2.2.1 h)
        unfold loaderC at ul
        have ux := (uB.block _ (lt_of_block px)).trans px
        have usp := psp.below uB
        have uown := ownsRow_below' pown uB
        have HU := Lib.hid (And.intro uo (And.intro ux (And.intro usp uown)))
        clear hU uB po px psp pown uo ux usp uown H3 d0 d1 d2 d3 d4 lg
        refine wp_region_facts [.val (.pointer (some ⟨l, 0, none⟩)), .val (.pointer (some ⟨l, 0, none⟩)), .val (.pointer (some ⟨l, 0, none⟩)), .val (.pointer (some ⟨s, 0, none⟩)), .val (.agg (#[.int .i64 768, .int .i64 256, .int .i64 1, .int .i64 0, .int .i64 0]))] (by kernel_rfl) (by kernel_rfl) ?_ ?_
        · simp only [stepsAll, List.take, List.length]
          refine ⟨?_, ?_, ?_, ?_, ?_, ?_⟩
          all_goals first | trivial | (intro a wr hb hf hd)
          all_goals have hf0 : a.tmps[(0 : Nat)]?.getD undef = .pointer (some ⟨l, 0, none⟩) := (hf 0 (by decide +kernel)).trans rfl
          all_goals have hf9 : a.tmps[(9 : Nat)]?.getD undef = .pointer (some ⟨W0.heap.size, 0, none⟩) := (hf 9 (by decide +kernel)).trans rfl
          · exact grow_tmp _ rfl ⟨hf0, fun h => by cases h⟩
          · have h51 : a.tmps[(51 : Nat)]?.getD undef = .pointer (some ⟨l, 0, none⟩) := hd 0 (by simp) (by kernel_rfl)
            exact grow_value (v := .pointer (some ⟨l, 0, none⟩)) (by simp [execOp, h51, go_sem]) (Below.refl _ _) ⟨rfl, fun h => by cases h⟩
          · have h52 : a.tmps[(52 : Nat)]?.getD undef = .pointer (some ⟨l, 0, none⟩) := hd 1 (by simp) (by kernel_rfl)
            exact grow_value (v := .pointer (some ⟨l, 0, none⟩)) (by simp [execOp, h52, go_sem]) (Below.refl _ _) ⟨rfl, fun h => by cases h⟩
          · have h53 : a.tmps[(53 : Nat)]?.getD undef = .pointer (some ⟨l, 0, none⟩) := hd 2 (by simp) (by kernel_rfl)
            have hc := cell_l ((hb.block _ (lt_of_block ul)).trans ul) 0 (rfl)
            exact grow_value (v := .pointer (some ⟨s, 0, none⟩)) (by simp [execOp, h53, hc, go_sem]) (Below.refl _ _) ⟨rfl, fun h => by cases h⟩
          · exact grow_load_row 9 105 rfl W0.heap.size hf9 _ _ _ _ ((hb.block _ (lt_of_block ua)).trans ua) Tryz.underlying105 rfl (by kernel_rfl) ⟨rfl, fun h => by cases h⟩
        · intro f81 w81 hb81 hs hn hne
          have g51 : f81 51 = .pointer (some ⟨l, 0, none⟩) := hs 0 (by simp)
          have g52 : f81 52 = .pointer (some ⟨l, 0, none⟩) := hs 1 (by simp)
          have g53 : f81 53 = .pointer (some ⟨l, 0, none⟩) := hs 2 (by simp)
          have g54 : f81 54 = .pointer (some ⟨s, 0, none⟩) := hs 3 (by simp)
          have g55 : f81 55 = .agg (#[.int .i64 768, .int .i64 256, .int .i64 1, .int .i64 0, .int .i64 0]) := hs 4 (by simp)
          rw [show (List.range (List.length _)).map (dstOf _) = [51, 52, 53, 54, 55] from by kernel_rfl]
          simp only [actOf, List.foldl, Act.put, List.drop, List.length, g51, g52, g53, g54, g55, List.setIfInBounds_toArray, List.set_cons_zero, List.set_cons_succ]
          clear hs hn hne g51 g52 g53 g54 g55
          go_wp2_with (go_at_call 67; refine (map_row s g0 cap0 [newPart 512 256 0 0 0 bc] 768 256 1 0 0 _ (areas_one bc) (HU.out.2.2.1.below hb81) (by omega) (by omega) (by decide) (by omega) (by omega) (by omega) (by omega) (by omega) (by simp) (by simp) (by simp [newPart])).mono ?_; rintro e W1 ⟨rfl, hmo1, pv1, bd, hsp1, hbd, hpv1⟩; have HW := Lib.hid (And.intro hmo1 (And.intro hsp1 (And.intro hbd hpv1))); clear hmo1 hsp1 hbd hpv1)
          obtain ⟨uo, ux, usp, uown⟩ := HU.out
          obtain ⟨hmo1, hsp1, hbd, hpv1⟩ := HW.out
          obtain ⟨g1, cap1, rfl, _⟩ := hsp1.parts (by simp)
          have lu := (uo.call hb81).size
          have lg1w : w.heap.size ≤ g1 := by
            rcases hpv1 with h | ⟨q, h, hq⟩
            · simp [Value.ownBlock] at h; omega
            · simp [Value.ownBlock] at h; omega
          have lbd : w.heap.size ≤ bd := Nat.le_trans lu hbd
          have po := (uo.call hb81).then hmo1 (T := fun b => b = s ∨ Value.ownBlock (.slice (some ⟨g0, 0, none⟩) 1 cap0) = some b) (by rintro b hb (rfl | h); exact .inl rfl; simp [Value.ownBlock] at h; omega)
          have lxw := lt_of_block HX.out
          have px := hmo1.kept ((hb81.block _ (lt_of_block ux)).trans ux) (by rintro (h | h); exact HN.out.1 h; simp [Value.ownBlock] at h; omega)
          have H3 := Lib.hid (And.intro po (And.intro px hsp1))
          clear po hsp1 hmo1 hpv1 uo ux usp uown HU HW hb81 ul ua hbd
          rw [rounds_succ]
          go_upto_region 16 with fail
          refine wp_region_facts [.val (.pointer (some ⟨x, 0, none⟩)), .val (.pointer (some ⟨x, 0, none⟩)), .val (.pointer (some ⟨x, 0, none⟩)), .val (.pointer (some ⟨x, 5, none⟩)), .val (.string B), .val (.pointer (some ⟨x, 0, none⟩)), .val (.pointer (some ⟨x, 0, none⟩)), .val (.pointer (some ⟨x, 0, none⟩)), .val (.pointer (some ⟨x, 2, none⟩)), .val (.int .i64 256), .val (.string ⟨(L.take 256).toArray⟩), .val (.pointer (some ⟨x, 0, none⟩)), .val (.pointer (some ⟨x, 0, none⟩)), .val (.pointer (some ⟨x, 0, none⟩)), .val (.pointer (some ⟨x, 5, none⟩)), .val (.string B), .val (.pointer (some ⟨x, 0, none⟩)), .val (.pointer (some ⟨x, 0, none⟩)), .val (.pointer (some ⟨x, 0, none⟩)), .val (.pointer (some ⟨x, 2, none⟩)), .val (.int .i64 256), .val (.string ⟨(L.drop 256).toArray⟩), .val (.string ⟨(L.take 256).toArray⟩), .val (.string ⟨(L.drop 256).toArray⟩)] (by kernel_rfl) (by kernel_rfl) ?_ ?_
          · simp only [stepsAll, List.take, List.length]
            refine ⟨?_, ?_, ?_, ?_, ?_, ?_, ?_, ?_, ?_, ?_, ?_, ?_, ?_, ?_, ?_, ?_, ?_, ?_, ?_, ?_, ?_, ?_, ?_, ?_, ?_⟩
            all_goals first | trivial | (intro a wr hb hf hd)
            all_goals have hf2 : a.tmps[(2 : Nat)]?.getD undef = .pointer (some ⟨x, 0, none⟩) := (hf 2 (by decide +kernel)).trans rfl
            · exact grow_tmp _ rfl ⟨hf2, fun h => by cases h⟩
            · have h75 : a.tmps[(75 : Nat)]?.getD undef = .pointer (some ⟨x, 0, none⟩) := hd 0 (by simp) (by kernel_rfl)
              exact grow_value (v := .pointer (some ⟨x, 0, none⟩)) (by simp [execOp, h75, go_sem]) (Below.refl _ _) ⟨rfl, fun h => by cases h⟩
            · have h76 : a.tmps[(76 : Nat)]?.getD undef = .pointer (some ⟨x, 0, none⟩) := hd 1 (by simp) (by kernel_rfl)
              exact grow_value (v := .pointer (some ⟨x, 0, none⟩)) (by simp [execOp, h76, go_sem]) (Below.refl _ _) ⟨rfl, fun h => by cases h⟩
            · have h77 : a.tmps[(77 : Nat)]?.getD undef = .pointer (some ⟨x, 0, none⟩) := hd 2 (by simp) (by kernel_rfl)
              exact grow_value (v := .pointer (some ⟨x, 5, none⟩)) (by simp [execOp, h77, go_sem]) (Below.refl _ _) ⟨rfl, fun h => by cases h⟩
            · have h78 : a.tmps[(78 : Nat)]?.getD undef = .pointer (some ⟨x, 5, none⟩) := hd 3 (by simp) (by kernel_rfl)
              have hc := cell_l ((hb.block _ (lt_of_block px)).trans px) 5 (modC_get5 B 512 1)
              exact grow_value (v := .string B) (by simp [execOp, h78, hc, go_sem]) (Below.refl _ _) ⟨rfl, fun h => by cases h⟩
            · exact grow_tmp _ rfl ⟨hf2, fun h => by cases h⟩
            · have h80 : a.tmps[(80 : Nat)]?.getD undef = .pointer (some ⟨x, 0, none⟩) := hd 5 (by simp) (by kernel_rfl)
              exact grow_value (v := .pointer (some ⟨x, 0, none⟩)) (by simp [execOp, h80, go_sem]) (Below.refl _ _) ⟨rfl, fun h => by cases h⟩
            · have h81 : a.tmps[(81 : Nat)]?.getD undef = .pointer (some ⟨x, 0, none⟩) := hd 6 (by simp) (by kernel_rfl)
              exact grow_value (v := .pointer (some ⟨x, 0, none⟩)) (by simp [execOp, h81, go_sem]) (Below.refl _ _) ⟨rfl, fun h => by cases h⟩
            · have h82 : a.tmps[(82 : Nat)]?.getD undef = .pointer (some ⟨x, 0, none⟩) := hd 7 (by simp) (by kernel_rfl)
              exact grow_value (v := .pointer (some ⟨x, 2, none⟩)) (by simp [execOp, h82, go_sem]) (Below.refl _ _) ⟨rfl, fun h => by cases h⟩
            · have h83 : a.tmps[(83 : Nat)]?.getD undef = .pointer (some ⟨x, 2, none⟩) := hd 8 (by simp) (by kernel_rfl)
              have hc := cell_l ((hb.block _ (lt_of_block px)).trans px) 2 (modC_get2 B 512 1)
              exact grow_value (v := .int .i64 256) (by simp [execOp, h83, hc, go_sem]) (Below.refl _ _) ⟨rfl, fun h => by cases h⟩
            · have h79 : a.tmps[(79 : Nat)]?.getD undef = .string B := hd 4 (by simp) (by kernel_rfl)
              have h84 : a.tmps[(84 : Nat)]?.getD undef = .int .i64 256 := hd 9 (by simp) (by kernel_rfl)
              have hs := lab_size' HBL.out.1 HBL.out.2
              have ht := take_str L HBL.out.2
              rw [← HBL.out.1] at ht
              exact grow_value (v := .string ⟨(L.take 256).toArray⟩) (by simp [execOp, h79, h84, go_sem, hs, ht]) (Below.refl _ _) ⟨rfl, fun h => by cases h⟩
            · exact grow_tmp _ rfl ⟨hf2, fun h => by cases h⟩
            · have h86 : a.tmps[(86 : Nat)]?.getD undef = .pointer (some ⟨x, 0, none⟩) := hd 11 (by simp) (by kernel_rfl)
              exact grow_value (v := .pointer (some ⟨x, 0, none⟩)) (by simp [execOp, h86, go_sem]) (Below.refl _ _) ⟨rfl, fun h => by cases h⟩
            · have h87 : a.tmps[(87 : Nat)]?.getD undef = .pointer (some ⟨x, 0, none⟩) := hd 12 (by simp) (by kernel_rfl)
              exact grow_value (v := .pointer (some ⟨x, 0, none⟩)) (by simp [execOp, h87, go_sem]) (Below.refl _ _) ⟨rfl, fun h => by cases h⟩
            · have h88 : a.tmps[(88 : Nat)]?.getD undef = .pointer (some ⟨x, 0, none⟩) := hd 13 (by simp) (by kernel_rfl)
              exact grow_value (v := .pointer (some ⟨x, 5, none⟩)) (by simp [execOp, h88, go_sem]) (Below.refl _ _) ⟨rfl, fun h => by cases h⟩
            · have h89 : a.tmps[(89 : Nat)]?.getD undef = .pointer (some ⟨x, 5, none⟩) := hd 14 (by simp) (by kernel_rfl)
              have hc := cell_l ((hb.block _ (lt_of_block px)).trans px) 5 (modC_get5 B 512 1)
              exact grow_value (v := .string B) (by simp [execOp, h89, hc, go_sem]) (Below.refl _ _) ⟨rfl, fun h => by cases h⟩
            · exact grow_tmp _ rfl ⟨hf2, fun h => by cases h⟩
            · have h91 : a.tmps[(91 : Nat)]?.getD undef = .pointer (some ⟨x, 0, none⟩) := hd 16 (by simp) (by kernel_rfl)
              exact grow_value (v := .pointer (some ⟨x, 0, none⟩)) (by simp [execOp, h91, go_sem]) (Below.refl _ _) ⟨rfl, fun h => by cases h⟩
            · have h92 : a.tmps[(92 : Nat)]?.getD undef = .pointer (some ⟨x, 0, none⟩) := hd 17 (by simp) (by kernel_rfl)
              exact grow_value (v := .pointer (some ⟨x, 0, none⟩)) (by simp [execOp, h92, go_sem]) (Below.refl _ _) ⟨rfl, fun h => by cases h⟩
            · have h93 : a.tmps[(93 : Nat)]?.getD undef = .pointer (some ⟨x, 0, none⟩) := hd 18 (by simp) (by kernel_rfl)
              exact grow_value (v := .pointer (some ⟨x, 2, none⟩)) (by simp [execOp, h93, go_sem]) (Below.refl _ _) ⟨rfl, fun h => by cases h⟩
            · have h94 : a.tmps[(94 : Nat)]?.getD undef = .pointer (some ⟨x, 2, none⟩) := hd 19 (by simp) (by kernel_rfl)
              have hc := cell_l ((hb.block _ (lt_of_block px)).trans px) 2 (modC_get2 B 512 1)
              exact grow_value (v := .int .i64 256) (by simp [execOp, h94, hc, go_sem]) (Below.refl _ _) ⟨rfl, fun h => by cases h⟩
            · have h90 : a.tmps[(90 : Nat)]?.getD undef = .string B := hd 15 (by simp) (by kernel_rfl)
              have h95 : a.tmps[(95 : Nat)]?.getD undef = .int .i64 256 := hd 20 (by simp) (by kernel_rfl)
              have hs := lab_size' HBL.out.1 HBL.out.2
              have ht := drop_str L HBL.out.2
              exact grow_value (v := .string ⟨(L.drop 256).toArray⟩) (by simp [execOp, h90, h95, go_sem, hs, ht]) (Below.refl _ _) ⟨rfl, fun h => by cases h⟩
            · have h85 : a.tmps[(85 : Nat)]?.getD undef = .string ⟨(L.take 256).toArray⟩ := hd 10 (by simp) (by kernel_rfl)
              exact grow_value (v := .string ⟨(L.take 256).toArray⟩) (by simp [execOp, h85, go_sem]) (Below.refl _ _) ⟨rfl, fun h => by cases h⟩
            · have h96 : a.tmps[(96 : Nat)]?.getD undef = .string ⟨(L.drop 256).toArray⟩ := hd 21 (by simp) (by kernel_rfl)
              exact grow_value (v := .string ⟨(L.drop 256).toArray⟩) (by simp [execOp, h96, go_sem]) (Below.refl _ _) ⟨rfl, fun h => by cases h⟩
          · intro f16 w16 hb16 hs hn hne
            have g75 : f16 75 = .pointer (some ⟨x, 0, none⟩) := hs 0 (by simp)
            have g76 : f16 76 = .pointer (some ⟨x, 0, none⟩) := hs 1 (by simp)
            have g77 : f16 77 = .pointer (some ⟨x, 0, none⟩) := hs 2 (by simp)
            have g78 : f16 78 = .pointer (some ⟨x, 5, none⟩) := hs 3 (by simp)
            have g79 : f16 79 = .string B := hs 4 (by simp)
            have g80 : f16 80 = .pointer (some ⟨x, 0, none⟩) := hs 5 (by simp)
            have g81 : f16 81 = .pointer (some ⟨x, 0, none⟩) := hs 6 (by simp)
            have g82 : f16 82 = .pointer (some ⟨x, 0, none⟩) := hs 7 (by simp)
            have g83 : f16 83 = .pointer (some ⟨x, 2, none⟩) := hs 8 (by simp)
            have g84 : f16 84 = .int .i64 256 := hs 9 (by simp)
            have g85 : f16 85 = .string ⟨(L.take 256).toArray⟩ := hs 10 (by simp)
            have g86 : f16 86 = .pointer (some ⟨x, 0, none⟩) := hs 11 (by simp)
            have g87 : f16 87 = .pointer (some ⟨x, 0, none⟩) := hs 12 (by simp)
            have g88 : f16 88 = .pointer (some ⟨x, 0, none⟩) := hs 13 (by simp)
            have g89 : f16 89 = .pointer (some ⟨x, 5, none⟩) := hs 14 (by simp)
            have g90 : f16 90 = .string B := hs 15 (by simp)
            have g91 : f16 91 = .pointer (some ⟨x, 0, none⟩) := hs 16 (by simp)
            have g92 : f16 92 = .pointer (some ⟨x, 0, none⟩) := hs 17 (by simp)
            have g93 : f16 93 = .pointer (some ⟨x, 0, none⟩) := hs 18 (by simp)
            have g94 : f16 94 = .pointer (some ⟨x, 2, none⟩) := hs 19 (by simp)
            have g95 : f16 95 = .int .i64 256 := hs 20 (by simp)
            have g96 : f16 96 = .string ⟨(L.drop 256).toArray⟩ := hs 21 (by simp)
            have g12 : f16 12 = .string ⟨(L.take 256).toArray⟩ := hs 22 (by simp)
            have g13 : f16 13 = .string ⟨(L.drop 256).toArray⟩ := hs 23 (by simp)
            rw [show (List.range (List.length _)).map (dstOf _) = [75, 76, 77, 78, 79, 80, 81, 82, 83, 84, 85, 86, 87, 88, 89, 90, 91, 92, 93, 94, 95, 96, 12, 13] from by kernel_rfl]
            simp only [actOf, List.foldl, Act.put, List.drop, List.length, g75, g76, g77, g78, g79, g80, g81, g82, g83, g84, g85, g86, g87, g88, g89, g90, g91, g92, g93, g94, g95, g96, g12, g13, List.setIfInBounds_toArray, List.set_cons_zero, List.set_cons_succ]
            clear hs hn hne g75 g76 g77 g78 g79 g80 g81 g82 g83 g84 g85 g86 g87 g88 g89 g90 g91 g92 g93 g94 g95 g96 g12 g13
            have qo := H3.out.1.call hb16
            have qx := (hb16.block _ (lt_of_block H3.out.2.1)).trans H3.out.2.1
            have qsp := H3.out.2.2.below hb16
            have ql := qo.kept HL.out (by rintro (h | h); exact HN.out.2.1 h; exact HN.out.2.2.1 h)
            unfold loaderC at ql
            clear hb16 H3 px
            go_upto_region 17 with fail
            refine wp_region_facts [.val (.pointer (some ⟨l, 0, none⟩)), .val (.pointer (some ⟨l, 0, none⟩)), .val (.pointer (some ⟨l, 0, none⟩)), .val (.pointer (some ⟨s, 0, none⟩)), .val (.pointer (some ⟨x, 0, none⟩)), .val (.pointer (some ⟨x, 0, none⟩)), .val (.pointer (some ⟨x, 26, none⟩)), .val (.int .i64 512), .val (.string ⟨(L.take 256).toArray⟩)] (by kernel_rfl) (by kernel_rfl) ?_ ?_
            · simp only [stepsAll, List.take, List.length]
              refine ⟨?_, ?_, ?_, ?_, ?_, ?_, ?_, ?_, ?_, ?_⟩
              all_goals first | trivial | (intro a wr hb hf hd)
              all_goals have hf0 : a.tmps[(0 : Nat)]?.getD undef = .pointer (some ⟨l, 0, none⟩) := (hf 0 (by decide +kernel)).trans rfl
              all_goals have hf2 : a.tmps[(2 : Nat)]?.getD undef = .pointer (some ⟨x, 0, none⟩) := (hf 2 (by decide +kernel)).trans rfl
              all_goals have hf12 : a.tmps[(12 : Nat)]?.getD undef = .string ⟨(L.take 256).toArray⟩ := (hf 12 (by decide +kernel)).trans rfl
              · exact grow_tmp _ rfl ⟨hf0, fun h => by cases h⟩
              · have h97 : a.tmps[(97 : Nat)]?.getD undef = .pointer (some ⟨l, 0, none⟩) := hd 0 (by simp) (by kernel_rfl)
                exact grow_value (v := .pointer (some ⟨l, 0, none⟩)) (by simp [execOp, h97, go_sem]) (Below.refl _ _) ⟨rfl, fun h => by cases h⟩
              · have h98 : a.tmps[(98 : Nat)]?.getD undef = .pointer (some ⟨l, 0, none⟩) := hd 1 (by simp) (by kernel_rfl)
                exact grow_value (v := .pointer (some ⟨l, 0, none⟩)) (by simp [execOp, h98, go_sem]) (Below.refl _ _) ⟨rfl, fun h => by cases h⟩
              · have h99 : a.tmps[(99 : Nat)]?.getD undef = .pointer (some ⟨l, 0, none⟩) := hd 2 (by simp) (by kernel_rfl)
                have hc := cell_l ((hb.block _ (lt_of_block ql)).trans ql) 0 (rfl)
                exact grow_value (v := .pointer (some ⟨s, 0, none⟩)) (by simp [execOp, h99, hc, go_sem]) (Below.refl _ _) ⟨rfl, fun h => by cases h⟩
              · exact grow_tmp _ rfl ⟨hf2, fun h => by cases h⟩
              · have h101 : a.tmps[(101 : Nat)]?.getD undef = .pointer (some ⟨x, 0, none⟩) := hd 4 (by simp) (by kernel_rfl)
                exact grow_value (v := .pointer (some ⟨x, 0, none⟩)) (by simp [execOp, h101, go_sem]) (Below.refl _ _) ⟨rfl, fun h => by cases h⟩
              · have h102 : a.tmps[(102 : Nat)]?.getD undef = .pointer (some ⟨x, 0, none⟩) := hd 5 (by simp) (by kernel_rfl)
                exact grow_value (v := .pointer (some ⟨x, 26, none⟩)) (by simp [execOp, h102, go_sem]) (Below.refl _ _) ⟨rfl, fun h => by cases h⟩
              · have h103 : a.tmps[(103 : Nat)]?.getD undef = .pointer (some ⟨x, 26, none⟩) := hd 6 (by simp) (by kernel_rfl)
                have hc := cell_l ((hb.block _ (lt_of_block qx)).trans qx) 26 (modC_get26 B 512 1)
                exact grow_value (v := .int .i64 512) (by simp [execOp, h103, hc, go_sem]) (Below.refl _ _) ⟨rfl, fun h => by cases h⟩
              · exact grow_tmp _ rfl ⟨hf12, fun h => by cases h⟩
            · intro f17 w17 hb17 hs hn hne
              have g97 : f17 97 = .pointer (some ⟨l, 0, none⟩) := hs 0 (by simp)
              have g98 : f17 98 = .pointer (some ⟨l, 0, none⟩) := hs 1 (by simp)
              have g99 : f17 99 = .pointer (some ⟨l, 0, none⟩) := hs 2 (by simp)
              have g100 : f17 100 = .pointer (some ⟨s, 0, none⟩) := hs 3 (by simp)
              have g101 : f17 101 = .pointer (some ⟨x, 0, none⟩) := hs 4 (by simp)
              have g102 : f17 102 = .pointer (some ⟨x, 0, none⟩) := hs 5 (by simp)
              have g103 : f17 103 = .pointer (some ⟨x, 26, none⟩) := hs 6 (by simp)
              have g104 : f17 104 = .int .i64 512 := hs 7 (by simp)
              have g105 : f17 105 = .string ⟨(L.take 256).toArray⟩ := hs 8 (by simp)
              rw [show (List.range (List.length _)).map (dstOf _) = [97, 98, 99, 100, 101, 102, 103, 104, 105] from by kernel_rfl]
              simp only [actOf, List.foldl, Act.put, List.drop, List.length, g97, g98, g99, g100, g101, g102, g103, g104, g105, List.setIfInBounds_toArray, List.set_cons_zero, List.set_cons_succ]
              clear hs hn hne g97 g98 g99 g100 g101 g102 g103 g104 g105
              have HQ := Lib.hid (And.intro (qo.call hb17) (And.intro ((hb17.block _ (lt_of_block qx)).trans qx) (qsp.below hb17)))
              have HLT := Lib.hid (show (512 : Int) - (newPart 512 256 0 0 0 bc).at_ + (L.take 256).length ≤ (newPart 512 256 0 0 0 bc).size by simp [newPart]; omega)
              clear qo qx qsp ql hb17
              go_upto_region 18 with (go_at_call 35; refine (write_at s (.slice (some ⟨g1, 0, none⟩) 2 cap1) [newPart 512 256 0 0 0 bc, newPart 768 256 1 0 0 bd] 512 (L.take 256) _ (areas_two bc bd) HQ.out.2.2 0 (last0 (by simp [newPart]) (by simp [newPart])) HLT.out).mono ?_; rintro e W2 ⟨rfl, ho2, hsp2⟩; have H2 := Lib.hid (And.intro ho2 hsp2); clear ho2 hsp2)
              obtain ⟨qo, qx, qsp⟩ := HQ.out
              obtain ⟨ho2, hsp2⟩ := H2.out
              have zo := qo.then ho2 (by rintro k hk (rfl : k = bc); omega)
              have nxc : ¬ x = bc := by have := lt_of_block HX.out; omega
              have zx := ho2.kept qx nxc
              have zl := zo.kept HL.out (by rintro (h | h); exact HN.out.2.1 h; exact HN.out.2.2.1 h)
              unfold loaderC at zl
              have HZ := Lib.hid (And.intro zo hsp2)
              have HLS := Lib.hid (And.intro HBL.out.2 trivial)
              clear qo qx qsp ho2 hsp2 HQ H2 zo HLT
              refine wp_region_facts [.val (.pointer (some ⟨l, 0, none⟩)), .val (.pointer (some ⟨l, 0, none⟩)), .val (.pointer (some ⟨l, 0, none⟩)), .val (.pointer (some ⟨s, 0, none⟩)), .val (.pointer (some ⟨x, 0, none⟩)), .val (.pointer (some ⟨x, 0, none⟩)), .val (.pointer (some ⟨x, 26, none⟩)), .val (.int .i64 512), .val (.string ⟨(L.take 256).toArray⟩), .val (.int .i64 256), .val (.int .i64 768), .val (.string ⟨(L.drop 256).toArray⟩)] (by kernel_rfl) (by kernel_rfl) ?_ ?_
              · simp only [stepsAll, List.take, List.length]
                refine ⟨?_, ?_, ?_, ?_, ?_, ?_, ?_, ?_, ?_, ?_, ?_, ?_, ?_⟩
                all_goals first | trivial | (intro a wr hb hf hd)
                all_goals have hf0 : a.tmps[(0 : Nat)]?.getD undef = .pointer (some ⟨l, 0, none⟩) := (hf 0 (by decide +kernel)).trans rfl
                all_goals have hf2 : a.tmps[(2 : Nat)]?.getD undef = .pointer (some ⟨x, 0, none⟩) := (hf 2 (by decide +kernel)).trans rfl
                all_goals have hf12 : a.tmps[(12 : Nat)]?.getD undef = .string ⟨(L.take 256).toArray⟩ := (hf 12 (by decide +kernel)).trans rfl
                all_goals have hf13 : a.tmps[(13 : Nat)]?.getD undef = .string ⟨(L.drop 256).toArray⟩ := (hf 13 (by decide +kernel)).trans rfl
                · exact grow_tmp _ rfl ⟨hf0, fun h => by cases h⟩
                · have h107 : a.tmps[(107 : Nat)]?.getD undef = .pointer (some ⟨l, 0, none⟩) := hd 0 (by simp) (by kernel_rfl)
                  exact grow_value (v := .pointer (some ⟨l, 0, none⟩)) (by simp [execOp, h107, go_sem]) (Below.refl _ _) ⟨rfl, fun h => by cases h⟩
                · have h108 : a.tmps[(108 : Nat)]?.getD undef = .pointer (some ⟨l, 0, none⟩) := hd 1 (by simp) (by kernel_rfl)
                  exact grow_value (v := .pointer (some ⟨l, 0, none⟩)) (by simp [execOp, h108, go_sem]) (Below.refl _ _) ⟨rfl, fun h => by cases h⟩
                · have h109 : a.tmps[(109 : Nat)]?.getD undef = .pointer (some ⟨l, 0, none⟩) := hd 2 (by simp) (by kernel_rfl)
                  have hc := cell_l ((hb.block _ (lt_of_block zl)).trans zl) 0 (rfl)
                  exact grow_value (v := .pointer (some ⟨s, 0, none⟩)) (by simp [execOp, h109, hc, go_sem]) (Below.refl _ _) ⟨rfl, fun h => by cases h⟩
                · exact grow_tmp _ rfl ⟨hf2, fun h => by cases h⟩
                · have h111 : a.tmps[(111 : Nat)]?.getD undef = .pointer (some ⟨x, 0, none⟩) := hd 4 (by simp) (by kernel_rfl)
                  exact grow_value (v := .pointer (some ⟨x, 0, none⟩)) (by simp [execOp, h111, go_sem]) (Below.refl _ _) ⟨rfl, fun h => by cases h⟩
                · have h112 : a.tmps[(112 : Nat)]?.getD undef = .pointer (some ⟨x, 0, none⟩) := hd 5 (by simp) (by kernel_rfl)
                  exact grow_value (v := .pointer (some ⟨x, 26, none⟩)) (by simp [execOp, h112, go_sem]) (Below.refl _ _) ⟨rfl, fun h => by cases h⟩
                · have h113 : a.tmps[(113 : Nat)]?.getD undef = .pointer (some ⟨x, 26, none⟩) := hd 6 (by simp) (by kernel_rfl)
                  have hc := cell_l ((hb.block _ (lt_of_block zx)).trans zx) 26 (modC_get26 B 512 1)
                  exact grow_value (v := .int .i64 512) (by simp [execOp, h113, hc, go_sem]) (Below.refl _ _) ⟨rfl, fun h => by cases h⟩
                · exact grow_tmp _ rfl ⟨hf12, fun h => by cases h⟩
                · have h115 : a.tmps[(115 : Nat)]?.getD undef = .string ⟨(L.take 256).toArray⟩ := hd 8 (by simp) (by kernel_rfl)
                  have hs := HBL.out.2
                  exact grow_value (v := .int .i64 256) (by simp [execOp, h115, go_sem, ByteArray.size, hs]) (Below.refl _ _) ⟨rfl, fun h => by cases h⟩
                · have h114 : a.tmps[(114 : Nat)]?.getD undef = .int .i64 512 := hd 7 (by simp) (by kernel_rfl)
                  have h116 : a.tmps[(116 : Nat)]?.getD undef = .int .i64 256 := hd 9 (by simp) (by kernel_rfl)
                  exact grow_value (v := .int .i64 768) (by simp [execOp, h114, h116, go_sem]; try rfl) (Below.refl _ _) ⟨rfl, fun h => by cases h⟩
                · exact grow_tmp _ rfl ⟨hf13, fun h => by cases h⟩
              · intro f18 w18 hb18 hs hn hne
                have g107 : f18 107 = .pointer (some ⟨l, 0, none⟩) := hs 0 (by simp)
                have g108 : f18 108 = .pointer (some ⟨l, 0, none⟩) := hs 1 (by simp)
                have g109 : f18 109 = .pointer (some ⟨l, 0, none⟩) := hs 2 (by simp)
                have g110 : f18 110 = .pointer (some ⟨s, 0, none⟩) := hs 3 (by simp)
                have g111 : f18 111 = .pointer (some ⟨x, 0, none⟩) := hs 4 (by simp)
                have g112 : f18 112 = .pointer (some ⟨x, 0, none⟩) := hs 5 (by simp)
                have g113 : f18 113 = .pointer (some ⟨x, 26, none⟩) := hs 6 (by simp)
                have g114 : f18 114 = .int .i64 512 := hs 7 (by simp)
                have g115 : f18 115 = .string ⟨(L.take 256).toArray⟩ := hs 8 (by simp)
                have g116 : f18 116 = .int .i64 256 := hs 9 (by simp)
                have g117 : f18 117 = .int .i64 768 := hs 10 (by simp)
                have g118 : f18 118 = .string ⟨(L.drop 256).toArray⟩ := hs 11 (by simp)
                rw [show (List.range (List.length _)).map (dstOf _) = [107, 108, 109, 110, 111, 112, 113, 114, 115, 116, 117, 118] from by kernel_rfl]
                simp only [actOf, List.foldl, Act.put, List.drop, List.length, g107, g108, g109, g110, g111, g112, g113, g114, g115, g116, g117, g118, List.setIfInBounds_toArray, List.set_cons_zero, List.set_cons_succ]
                clear hs hn hne g107 g108 g109 g110 g111 g112 g113 g114 g115 g116 g117 g118
                have HQ := Lib.hid (And.intro (HZ.out.1.call hb18) (And.intro ((hb18.block _ (lt_of_block zx)).trans zx) (HZ.out.2.below hb18)))
                have HLT := Lib.hid (show (768 : Int) - (newPart 768 256 1 0 0 bd).at_ + (L.drop 256).length ≤ (newPart 768 256 1 0 0 bd).size by have := HBL.out.2; simp [newPart]; omega)
                clear zx zl hb18 HZ
                go_upto_region 19 with (go_at_call 35; refine (write_at s (.slice (some ⟨g1, 0, none⟩) 2 cap1) [codeP L bc, newPart 768 256 1 0 0 bd] 768 (L.drop 256) _ ((areas_two bc bd).put 0 (by simp) 512 (L.take 256)) HQ.out.2.2 1 (last1 (by simp [newPart])) HLT.out).mono ?_; rintro e W3 ⟨rfl, ho3, hsp3⟩; have H2 := Lib.hid (And.intro ho3 hsp3); clear ho3 hsp3)
                obtain ⟨qo, qx, qsp⟩ := HQ.out
                obtain ⟨ho3, hsp3⟩ := H2.out
                have zo := qo.then ho3 (by rintro k hk (rfl : k = bd); omega)
                have nxd : ¬ x = bd := by have := lt_of_block HX.out; omega
                have zx := ho3.kept qx nxd
                have zl := zo.kept HL.out (by rintro (h | h); exact HN.out.2.1 h; exact HN.out.2.2.1 h)
                unfold loaderC at zl
                have HZ := Lib.hid (And.intro zo hsp3)
                clear qo qx qsp ho3 hsp3 HQ H2 zo HLT
                refine wp_region_facts [.val (.pointer (some ⟨l, 0, none⟩)), .val (.pointer (some ⟨l, 0, none⟩)), .val (.pointer (some ⟨l, 1, none⟩)), .val (.pointer (some ⟨b, 0, none⟩)), .val (.int .i64 0), .val (.pointer (some ⟨x, 0, none⟩)), .val (.pointer (some ⟨x, 0, none⟩)), .val (.pointer (some ⟨x, 0, none⟩)), .val (.agg (labCells B))] (by kernel_rfl) (by kernel_rfl) ?_ ?_
                · simp only [stepsAll, List.take, List.length]
                  refine ⟨?_, ?_, ?_, ?_, ?_, ?_, ?_, ?_, ?_, ?_⟩
                  all_goals first | trivial | (intro a wr hb hf hd)
                  all_goals have hf0 : a.tmps[(0 : Nat)]?.getD undef = .pointer (some ⟨l, 0, none⟩) := (hf 0 (by decide +kernel)).trans rfl
                  all_goals have hf1 : a.tmps[(1 : Nat)]?.getD undef = .int .i64 0 := (hf 1 (by decide +kernel)).trans rfl
                  all_goals have hf2 : a.tmps[(2 : Nat)]?.getD undef = .pointer (some ⟨x, 0, none⟩) := (hf 2 (by decide +kernel)).trans rfl
                  · exact grow_tmp _ rfl ⟨hf0, fun h => by cases h⟩
                  · have h120 : a.tmps[(120 : Nat)]?.getD undef = .pointer (some ⟨l, 0, none⟩) := hd 0 (by simp) (by kernel_rfl)
                    exact grow_value (v := .pointer (some ⟨l, 0, none⟩)) (by simp [execOp, h120, go_sem]) (Below.refl _ _) ⟨rfl, fun h => by cases h⟩
                  · have h121 : a.tmps[(121 : Nat)]?.getD undef = .pointer (some ⟨l, 0, none⟩) := hd 1 (by simp) (by kernel_rfl)
                    exact grow_value (v := .pointer (some ⟨l, 1, none⟩)) (by simp [execOp, h121, go_sem]) (Below.refl _ _) ⟨rfl, fun h => by cases h⟩
                  · have h122 : a.tmps[(122 : Nat)]?.getD undef = .pointer (some ⟨l, 1, none⟩) := hd 2 (by simp) (by kernel_rfl)
                    have hc := cell_l ((hb.block _ (lt_of_block zl)).trans zl) 1 (rfl)
                    exact grow_value (v := .pointer (some ⟨b, 0, none⟩)) (by simp [execOp, h122, hc, go_sem]) (Below.refl _ _) ⟨rfl, fun h => by cases h⟩
                  · exact grow_tmp _ rfl ⟨hf1, fun h => by cases h⟩
                  · exact grow_tmp _ rfl ⟨hf2, fun h => by cases h⟩
                  · have h125 : a.tmps[(125 : Nat)]?.getD undef = .pointer (some ⟨x, 0, none⟩) := hd 5 (by simp) (by kernel_rfl)
                    exact grow_value (v := .pointer (some ⟨x, 0, none⟩)) (by simp [execOp, h125, go_sem]) (Below.refl _ _) ⟨rfl, fun h => by cases h⟩
                  · have h126 : a.tmps[(126 : Nat)]?.getD undef = .pointer (some ⟨x, 0, none⟩) := hd 6 (by simp) (by kernel_rfl)
                    exact grow_value (v := .pointer (some ⟨x, 0, none⟩)) (by simp [execOp, h126, go_sem]) (Below.refl _ _) ⟨rfl, fun h => by cases h⟩
                  · have h127 : a.tmps[(127 : Nat)]?.getD undef = .pointer (some ⟨x, 0, none⟩) := hd 7 (by simp) (by kernel_rfl)
                    exact grow_value (v := .agg (labCells B)) (by simp [execOp, h127, Act.eval, Instr.loadAt, Instr.sureAddr, mod_load B 512 1 ((hb.block _ (lt_of_block zx)).trans zx)]) (Below.refl _ _) ⟨rfl, fun h => by cases h⟩
                · intro f19 w19 hb19 hs hn hne
                  have g120 : f19 120 = .pointer (some ⟨l, 0, none⟩) := hs 0 (by simp)
                  have g121 : f19 121 = .pointer (some ⟨l, 0, none⟩) := hs 1 (by simp)
                  have g122 : f19 122 = .pointer (some ⟨l, 1, none⟩) := hs 2 (by simp)
                  have g123 : f19 123 = .pointer (some ⟨b, 0, none⟩) := hs 3 (by simp)
                  have g124 : f19 124 = .int .i64 0 := hs 4 (by simp)
                  have g125 : f19 125 = .pointer (some ⟨x, 0, none⟩) := hs 5 (by simp)
                  have g126 : f19 126 = .pointer (some ⟨x, 0, none⟩) := hs 6 (by simp)
                  have g127 : f19 127 = .pointer (some ⟨x, 0, none⟩) := hs 7 (by simp)
                  have g128 : f19 128 = .agg (labCells B) := hs 8 (by simp)
                  rw [show (List.range (List.length _)).map (dstOf _) = [120, 121, 122, 123, 124, 125, 126, 127, 128] from by kernel_rfl]
                  simp only [actOf, List.foldl, Act.put, List.drop, List.length, g120, g121, g122, g123, g124, g125, g126, g127, g128, List.setIfInBounds_toArray, List.set_cons_zero, List.set_cons_succ]
                  clear hs hn hne g120 g121 g122 g123 g124 g125 g126 g127 g128
                  obtain ⟨hbb, hmo, hth, nmt⟩ := HM.out
                  have qo := HZ.out.1.call hb19
                  have nm1 : ¬ (mo = s ∨ mo = x) := by rintro (h | h); have := HSP.out.head; rw [← h, hmo] at this; simp at this; have := HX.out; rw [← h, hmo] at this; simp at this
                  have nt1 : ¬ (th = s ∨ th = x) := by rintro (h | h); have := HSP.out.head; rw [← h, hth] at this; simp at this; have := HX.out; rw [← h, hth] at this; simp at this
                  have qb := qo.kept hbb (by rintro (h | h); exact HN.out.2.2.2.1 h; exact HN.out.2.2.2.2 h)
                  have qm := qo.kept hmo nm1
                  have qt := qo.kept hth nt1
                  have HQ := Lib.hid (And.intro qo (And.intro ((hb19.block _ (lt_of_block zx)).trans zx) (And.intro (HZ.out.2.below hb19) (And.intro qb (And.intro qm qt)))))
                  clear zx zl hb19 HZ hbb hmo hth qo qb qm qt
                  go_wp2_with (go_at_call 204; refine (tmodule b s mo th at_ B (lab_size' HBL.out.1 HBL.out.2) _ HQ.out.2.2.2.1 HQ.out.2.2.2.2.1 HQ.out.2.2.2.2.2 nmt).mono ?_; rintro e W4 ⟨rfl, ho4, hm4⟩; have H4 := Lib.hid (And.intro ho4 hm4); clear ho4 hm4)
                  go_ret
                  obtain ⟨qo, qx, qsp, qb, qm, qt⟩ := HQ.out
                  obtain ⟨ho4, hm4⟩ := H4.out
                  refine ⟨rfl, (qo.mono (T := fun k => k = s ∨ k = x ∨ k = mo) (by rintro k _ (h | h); exact .inl h; exact .inr (.inl h))).then ho4 (by rintro k _ h; exact .inr (.inr h)), ho4.kept qx (fun h => nm1 (.inr h.symm)), hm4, g1, cap1, bc, bd, ?_, lg1w, lbc, lbd⟩
                  refine qsp.kept ho4 ?_
                  rintro k hk (rfl : k = mo)
                  rcases hk with h | h | ⟨p, hp, h⟩
                  · exact nm1 (.inl h)
                  · have := lt_of_block HM.out.2.1; simp [Value.ownBlock] at h; omega
                  · have := lt_of_block HM.out.2.1
                    simp at hp
                    rcases hp with rfl | rfl <;> simp [codeP, newPart, Part.put] at h <;> omega
end Go.Proofs.YtkbilipgidcgeaaGreatDoor.Tiny
