/- space: Load of a word. machine: what executes a load, a sum, a return, a jump. machine: Step at the end of the code. The example's first and third converters: their steps. -/
import Derived.Test.YtkbilipgidcgeaaGreatDoorW10
import Derived.Test.YtkbilipgidcgeaaGreatDoorW12
import Derived.Test.YtkbilipgidcgeaaGreatDoorW32
import Derived.Test.YtkbilipgidcgeaaGreatDoorW33
import Derived.Test.YtkbilipgidcgeaaGreatDoorW41
set_option linter.unusedVariables false
set_option linter.unusedSimpArgs false
namespace Go.Proofs.YtkbilipgidcgeaaGreatDoor
open Go.RowKit
attribute [local go_sem] ext_cell ext_frozen

set_option maxRecDepth 100000 in
set_option maxHeartbeats 2000000 in
theorem load_word (s g cap : Nat) (ps : List Part) (a : Int) (w : World) (hA : AreasOk ps) (hsp : SpaceAt w s (.slice (some ⟨g, 0, none⟩) ps.length cap) ps)
    (k : Nat) (hk : LastAt ps a k) (p : Part) (hp : p = ps[k]'hk.lt) (hin : a - p.at_ + 8 ≤ p.size) (hm : a.tmod 8 = 0) :
    Calls Tryz.prog 10 #[.pointer (some ⟨s, 0, none⟩), .int .i64 a, .int .i64 8] w fun e w' =>
      Below w.heap.size w w' ∧ e = .returned (.tuple #[.int .i64 (sgn64 (leN (readL p a 8))), .int .i64 0]) := by
  have hls := lt_of_block hsp.head
  have hk1 := hk.le
  rw [← hp] at hk1
  have hmem : p ∈ ps := by rw [hp]; exact List.getElem_mem hk.lt
  obtain ⟨e1, e2, e3, e4, e5⟩ := hA.each p hmem
  obtain ⟨b1, b2, cur, b3, b4, b5⟩ := hsp.bytes.2 p hmem
  have hbl := lt_of_block b3
  have HF := Lib.hid (access_word s g cap ps a w hA hsp k hk p hp hin hm)
  have HB := Lib.hid (And.intro b3 (And.intro b4 b5))
  unfold partV bytesV at HF
  clear b3 b4 b5 hA hsp hk hp hmem e2 hm
  go_enter Tryz.func10, Tryz.ntmps10
  go_wp2_with (go_at_call 29; refine HF.out.mono ?_; rintro e w1 ⟨hb1, rfl⟩; have hsz1 := hb1.size)
  have hlen : (readL p a 8).length = 8 := by simp [readL]; omega
  have hl2 : (a - p.at_ + 8).toNat - (a - p.at_).toNat = (readL p a 8).length := by omega
  obtain ⟨b3, b4, b5⟩ := HB.out
  rw [hl2, run_convert_bytes_back _ 76 9 5 ⟨p.blk, (a - p.at_).toNat, none⟩ _ (readL p a 8) Tryz.underlying76 Tryz.underlying5 Tryz.underlying9 ?hc]
  case hc =>
    intro j hj
    rw [hlen] at hj
    have hj2 : (a - p.at_).toNat + j < p.data.length := by omega
    have h1 : (byteCells p.data)[(a - p.at_).toNat + j]? = some (.int .u8 (p.data[(a - p.at_).toNat + j].toNat : Int)) := by simp [byteCells, List.getElem?_eq_getElem hj2]
    rw [← b5, List.getElem?_take_of_lt hj2] at h1
    have h2 : w.cell? ⟨p.blk, (a - p.at_).toNat + j, none⟩ = some (.int .u8 (p.data[(a - p.at_).toNat + j].toNat : Int)) := cell_in b3 _ (by simpa using h1)
    rw [addr_addo]
    refine (Below.cell (B := w.heap.size) ((hb1.alloc hsz1 _)) (p := ⟨p.blk, _, none⟩) hbl).trans (h2.trans ?_)
    simp [readL]
  clear b3 b4 b5
  go_wp2_with (go_at_call 30; refine (get8 (readL p a 8) _ hlen).mono ?_; rintro e w2 ⟨hb2, rfl⟩)
  go_ret2
  exact ⟨below_call (hb1.alloc hsz1 _) hb2, rfl⟩
end Go.Proofs.YtkbilipgidcgeaaGreatDoor

namespace Go.Proofs.YtkbilipgidcgeaaGreatDoor
open Go.RowKit
attribute [local go_sem] ext_cell ext_frozen

theorem below_same {w w' : World} {g : Nat} {o : Obj} (h : w.heap[g]? = some o) (ho : Only (· = g) w w') (h' : w'.heap[g]? = some o) : Below w.heap.size w w' :=
  ⟨ho.os, ho.tape, ho.output, ho.size, fun k hk => by
    by_cases e : k = g
    · subst e; rw [h, h']
    · exact ho.block k hk e⟩

set_option maxRecDepth 100000 in
set_option maxHeartbeats 1000000 in
theorem mload_any (g s gp cap : Nat) (ps : List Part) (op a b c imm at_ : Int) (r : Nat → Int) (pc : Int) (r' : Nat → Int) (pc' k n : Int) (w : World) (hg : w.heap[g]? = some (.cells (runL s op a b c imm r pc r' pc' k n false).toArray 301 (0, 0)))
    (hA : AreasOk ps) (hsp : SpaceAt w s (.slice (some ⟨gp, 0, none⟩) ps.length cap) ps) (j : Nat) (hk : LastAt ps at_ j) (hin : at_ - (ps[j]'hk.lt).at_ + 8 ≤ (ps[j]'hk.lt).size) (hm : at_.tmod 8 = 0) :
    Calls Tryz.prog 244 #[.pointer (some ⟨g, 0, none⟩), .int .i64 at_, .int .i64 8] w fun e w' => e = .returned (.int .i64 (sgn64 (leN (readL (ps[j]'hk.lt) at_ 8)))) ∧ Below w.heap.size w w' := by
  have HG := Lib.hid hg
  have HS := Lib.hid (And.intro hA (And.intro hsp (And.intro hin hm)))
  have c0 := cell_l hg 0 rfl
  clear hg hA hsp hin hm
  go_enter Tryz.func244, Tryz.ntmps244
  go_wp2_with fail
  go_at_call 10
  refine (load_word s gp cap ps at_ _ HS.out.1 HS.out.2.1 j hk _ rfl HS.out.2.2.1 HS.out.2.2.2).mono ?_
  rintro e w1 ⟨hb1, rfl⟩
  have kg := (hb1.block _ (lt_of_block HG.out)).trans HG.out
  have d42 := cell_l kg 42 rfl
  have f42 := free_in kg 42
  have H1 := Lib.hid (And.intro hb1 kg)
  obtain ⟨v, hv⟩ : ∃ v, v = sgn64 (leN (readL (ps[j]'hk.lt) at_ 8)) := ⟨_, rfl⟩
  rw [← hv]
  have HVV := Lib.hid hv
  clear hb1 kg c0 hv
  go_wp2
  go_ret
  rw [← HVV.out]
  obtain ⟨hb1, kg⟩ := H1.out
  have h := block_set kg 42 (.bool false)
  have h2 : (runL s op a b c imm r pc r' pc' k n false).set 42 (.bool false) = runL s op a b c imm r pc r' pc' k n false := rfl
  rw [h2] at h
  exact ⟨rfl, hb1.trans ((below_same kg ((Only.refl (· = g) w1).setCell ⟨g, 42, none⟩ _ (.inl rfl)) h).mono hb1.size)⟩

set_option maxRecDepth 100000 in
set_option maxHeartbeats 2000000 in
theorem opload_any (g s gp cap : Nat) (ps : List Part) (op c imm : Int) (ra b : Nat) (ha : ra < 16) (hlb : b < 16) (r : Nat → Int) (pc : Int) (r' : Nat → Int) (pc' k n : Int) (w : World) (hg : w.heap[g]? = some (.cells (runL s op ra b c imm r pc r' pc' k n false).toArray 301 (0, 0)))
    (hA : AreasOk ps) (hsp : SpaceAt w s (.slice (some ⟨gp, 0, none⟩) ps.length cap) ps) (j : Nat) (hk : LastAt ps (r b + imm) j) (hin : r b + imm - (ps[j]'hk.lt).at_ + 8 ≤ (ps[j]'hk.lt).size) (hm : (r b + imm).tmod 8 = 0) :
    Calls Tryz.prog 243 #[.pointer (some ⟨g, 0, none⟩)] w fun e w' => e = .returned (.tuple #[]) ∧ Only (· = g) w w' ∧
      w'.heap[g]? = some (.cells (runL s op ra b c imm r pc (upd r' ra (sgn64 (leN (readL (ps[j]'hk.lt) (r b + imm) 8)))) pc' k n false).toArray 301 (0, 0)) := by
  have HS := Lib.hid (And.intro hA (And.intro hsp (And.intro hin hm)))
  have hwr : IntKind.i64.wrap (r b + imm) = r b + imm := by
    have h1 := (hA.each _ (List.getElem_mem hk.lt))
    have h2 := hk.le
    exact IntWalk.i64_in _ (by omega)
  have HW := Lib.hid hwr
  obtain ⟨v, hv⟩ : ∃ v, v = sgn64 (leN (readL (ps[j]'hk.lt) (r b + imm) 8)) := ⟨_, rfl⟩
  rw [← hv]
  have HV := Lib.hid hv
  clear hA hsp hin hm hwr hv
  go_enter Tryz.func243, Tryz.ntmps243
  refine wp_region_facts [.val (.pointer (some ⟨g, 0, none⟩)), .val (.pointer (some ⟨g, 0, none⟩)), .val (.pointer (some ⟨g, 0, none⟩)), .val (.int .i64 (r b)), .val (.pointer (some ⟨g, 0, none⟩)), .val (.pointer (some ⟨g, 0, none⟩)), .val (.pointer (some ⟨g, 1, none⟩)), .val (.pointer (some ⟨g, 5, none⟩)), .val (.int .i64 imm), .val (.int .i64 (r b + imm)), .val (.int .i64 v)] (by kernel_rfl) (by kernel_rfl) ?_ ?_
  · simp only [stepsAll, List.take, List.length]
    refine ⟨?_, ?_, ?_, ?_, ?_, ?_, ?_, ?_, ?_, ?_, ?_, ?_⟩
    all_goals first | trivial | (intro a wr hb hf hd)
    all_goals have hf0 : a.tmps[(0 : Nat)]?.getD undef = .pointer (some ⟨g, 0, none⟩) := (hf 0 (by decide +kernel)).trans rfl
    · exact grow_tmp _ rfl ⟨hf0, fun h => by cases h⟩
    · exact grow_tmp _ rfl ⟨hf0, fun h => by cases h⟩
    · exact grow_tmp _ rfl ⟨hf0, fun h => by cases h⟩
    · have h4 : a.tmps[(4 : Nat)]?.getD undef = .pointer (some ⟨g, 0, none⟩) := hd 2 (by simp) (by kernel_rfl)
      refine grow_call (f := 231) (args := #[.pointer (some ⟨g, 0, none⟩)]) (by simp [execOp, h4, go_sem]) ?_
      refine (mb_any g s op _ c imm b hlb r pc r' pc' k n false _ ((hb.block _ (lt_of_block hg)).trans hg)).mono ?_
      rintro e w3 ⟨rfl, hb3⟩
      exact ⟨_, rfl, hb3, rfl, fun h => by cases h⟩
    · exact grow_tmp _ rfl ⟨hf0, fun h => by cases h⟩
    · have h6 : a.tmps[(6 : Nat)]?.getD undef = .pointer (some ⟨g, 0, none⟩) := hd 4 (by simp) (by kernel_rfl)
      exact grow_value (v := .pointer (some ⟨g, 0, none⟩)) (by simp [execOp, h6, go_sem]) (Below.refl _ _) ⟨rfl, fun h => by cases h⟩
    · have h7 : a.tmps[(7 : Nat)]?.getD undef = .pointer (some ⟨g, 0, none⟩) := hd 5 (by simp) (by kernel_rfl)
      exact grow_value (v := .pointer (some ⟨g, 1, none⟩)) (by simp [execOp, h7, go_sem]) (Below.refl _ _) ⟨rfl, fun h => by cases h⟩
    · have h8 : a.tmps[(8 : Nat)]?.getD undef = .pointer (some ⟨g, 1, none⟩) := hd 6 (by simp) (by kernel_rfl)
      exact grow_value (v := .pointer (some ⟨g, 5, none⟩)) (by simp [execOp, h8, go_sem]) (Below.refl _ _) ⟨rfl, fun h => by cases h⟩
    · have h9 : a.tmps[(9 : Nat)]?.getD undef = .pointer (some ⟨g, 5, none⟩) := hd 7 (by simp) (by kernel_rfl)
      have hc := cell_l ((hb.block _ (lt_of_block hg)).trans hg) 5 (rfl)
      exact grow_value (v := .int .i64 imm) (by simp [execOp, h9, hc, go_sem]) (Below.refl _ _) ⟨rfl, fun h => by cases h⟩
    · have h5 : a.tmps[(5 : Nat)]?.getD undef = .int .i64 (r b) := hd 3 (by simp) (by kernel_rfl)
      have h10 : a.tmps[(10 : Nat)]?.getD undef = .int .i64 imm := hd 8 (by simp) (by kernel_rfl)
      have hwr := HW.out
      exact grow_value (v := .int .i64 (r b + imm)) (by simp [execOp, h5, h10, go_sem, hwr]) (Below.refl _ _) ⟨rfl, fun h => by cases h⟩
    · have h3 : a.tmps[(3 : Nat)]?.getD undef = .pointer (some ⟨g, 0, none⟩) := hd 1 (by simp) (by kernel_rfl)
      have h11 : a.tmps[(11 : Nat)]?.getD undef = .int .i64 (r b + imm) := hd 9 (by simp) (by kernel_rfl)
      refine grow_call (f := 244) (args := #[.pointer (some ⟨g, 0, none⟩), .int .i64 (r b + imm), .int .i64 8]) (by simp [execOp, h3, h11, go_sem]) ?_
      refine (mload_any g s gp cap ps op ra b c imm (r b + imm) r pc r' pc' k n _ ((hb.block _ (lt_of_block hg)).trans hg) HS.out.1 (HS.out.2.1.below hb) j hk HS.out.2.2.1 HS.out.2.2.2).mono ?_
      rintro e w3 ⟨rfl, hb3⟩
      exact ⟨_, rfl, hb3, by rw [← HV.out]; rfl, fun h => by cases h⟩
  · intro fv w2 hb2 hs hn hne
    have g2 : fv 2 = .pointer (some ⟨g, 0, none⟩) := hs 0 (by simp)
    have g3 : fv 3 = .pointer (some ⟨g, 0, none⟩) := hs 1 (by simp)
    have g4 : fv 4 = .pointer (some ⟨g, 0, none⟩) := hs 2 (by simp)
    have g5 : fv 5 = .int .i64 (r b) := hs 3 (by simp)
    have g6 : fv 6 = .pointer (some ⟨g, 0, none⟩) := hs 4 (by simp)
    have g7 : fv 7 = .pointer (some ⟨g, 0, none⟩) := hs 5 (by simp)
    have g8 : fv 8 = .pointer (some ⟨g, 1, none⟩) := hs 6 (by simp)
    have g9 : fv 9 = .pointer (some ⟨g, 5, none⟩) := hs 7 (by simp)
    have g10 : fv 10 = .int .i64 imm := hs 8 (by simp)
    have g11 : fv 11 = .int .i64 (r b + imm) := hs 9 (by simp)
    have g12 : fv 12 = .int .i64 v := hs 10 (by simp)
    rw [show (List.range (List.length _)).map (dstOf _) = [2, 3, 4, 5, 6, 7, 8, 9, 10, 11, 12] from by kernel_rfl]
    simp only [actOf, List.foldl, Act.put, List.drop, List.length, g2, g3, g4, g5, g6, g7, g8, g9, g10, g11, g12, List.setIfInBounds_toArray, List.set_cons_zero, List.set_cons_succ]
    clear hs hn hne g2 g3 g4 g5 g6 g7 g8 g9 g10 g11 g12
    have zg := (hb2.block _ (lt_of_block hg)).trans hg
    have HZ := Lib.hid (And.intro hb2 zg)
    clear hb2 zg
    go_wp2_with (go_at_call 228; refine (mset_any g s op b c imm v ra ha r pc r' pc' k n false _ HZ.out.2).mono ?_; rintro e w3 ⟨rfl, ho3, hg3⟩; have H3 := Lib.hid (And.intro ho3 hg3); clear ho3 hg3)
    go_end0
    exact ⟨rfl, (Only.of_below HZ.out.1).trans H3.out.1, H3.out.2⟩

set_option maxRecDepth 100000 in
set_option maxHeartbeats 2000000 in
theorem opadd_any (g s : Nat) (op imm : Int) (ra b c : Nat) (ha : ra < 16) (hlb : b < 16) (hlc : c < 16) (r : Nat → Int) (pc : Int) (r' : Nat → Int) (pc' k n : Int) (w : World) (hg : w.heap[g]? = some (.cells (runL s op ra b c imm r pc r' pc' k n false).toArray 301 (0, 0))) :
    Calls Tryz.prog 232 #[.pointer (some ⟨g, 0, none⟩)] w fun e w' => e = .returned (.tuple #[]) ∧ Only (· = g) w w' ∧
      w'.heap[g]? = some (.cells (runL s op ra b c imm r pc (upd r' ra (IntKind.i64.wrap (r b + r c))) pc' k n false).toArray 301 (0, 0)) := by
  have HG := Lib.hid hg
  clear hg
  go_enter Tryz.func232, Tryz.ntmps232
  go_wp2_with fail
  go_at_call 231
  refine (mb_any g s op _ c imm b hlb r pc r' pc' k n false _ HG.out).mono ?_
  rintro e w1 ⟨rfl, hb1⟩
  have k1 := (hb1.block _ (lt_of_block HG.out)).trans HG.out
  have H1 := Lib.hid (And.intro hb1 k1)
  clear hb1 k1
  go_wp2_with fail
  go_at_call 233
  refine (mcc_any g s op _ b imm c hlc r pc r' pc' k n false _ H1.out.2).mono ?_
  rintro e w2 ⟨rfl, hb2⟩
  have k2 := (hb2.block _ (lt_of_block H1.out.2)).trans H1.out.2
  have H2 := Lib.hid (And.intro (H1.out.1.trans (hb2.mono H1.out.1.size)) k2)
  clear hb2 k2
  go_wp2_with fail
  go_at_call 228
  refine (mset_any g s op b c imm _ ra ha r pc r' pc' k n false _ H2.out.2).mono ?_
  rintro e w3 ⟨rfl, ho3, hg3⟩
  have H3 := Lib.hid (And.intro ho3 hg3)
  clear ho3 hg3
  go_wp2
  go_end0
  have e : wrap64 (r b + r c) = IntKind.i64.wrap (r b + r c) := by rw [IntKind.wrap_i64]; unfold wrap64; first | rfl | omega | (split <;> omega)
  have h3 := H3.out.2
  rw [e] at h3
  exact ⟨rfl, (Only.of_below H2.out.1).trans H3.out.1, h3⟩

set_option maxRecDepth 100000 in
set_option maxHeartbeats 2000000 in
theorem mpop_any (g s gp cap : Nat) (ps : List Part) (op a b c imm : Int) (r : Nat → Int) (pc : Int) (r' : Nat → Int) (pc' k n : Int) (w : World) (hg : w.heap[g]? = some (.cells (runL s op a b c imm r pc r' pc' k n false).toArray 301 (0, 0)))
    (hA : AreasOk ps) (hsp : SpaceAt w s (.slice (some ⟨gp, 0, none⟩) ps.length cap) ps) (j : Nat) (hk : LastAt ps (r 15) j) (hin : r 15 - (ps[j]'hk.lt).at_ + 8 ≤ (ps[j]'hk.lt).size) (hm : (r 15).tmod 8 = 0) :
    Calls Tryz.prog 260 #[.pointer (some ⟨g, 0, none⟩)] w fun e w' => e = .returned (.int .i64 (sgn64 (leN (readL (ps[j]'hk.lt) (r 15) 8)))) ∧ Only (· = g) w w' ∧
      w'.heap[g]? = some (.cells (runL s op a b c imm r pc (upd r' 15 (r 15 + 8)) pc' k n false).toArray 301 (0, 0)) := by
  have HG := Lib.hid hg
  have HS := Lib.hid (And.intro hA (And.intro hsp (And.intro hin hm)))
  have hwr : IntKind.i64.wrap (r 15 + 8) = r 15 + 8 := by
    have h1 := (hA.each _ (List.getElem_mem hk.lt))
    have h2 := hk.le
    exact IntWalk.i64_in _ (by omega)
  have HW := Lib.hid hwr
  clear hg hA hsp hin hm hwr
  go_enter Tryz.func260, Tryz.ntmps260
  go_wp2
  refine wp_region_still_tail 12 (by kernel_rfl) (by kernel_rfl) ?_
  simp only [List.take_succ_cons, List.take_zero, List.drop_succ_cons, List.drop_zero]
  generalize hU : World.mk w.heap w.tape (w.drawn + 1) w.os w.output = U
  have hUV : U = w.drew := hU.symm
  have ug : U.heap[g]? = some (.cells (runL s op a b c imm r pc r' pc' k n false).toArray 301 (0, 0)) := by rw [hUV]; exact HG.out
  have uB : Below w.heap.size w U := by rw [hUV]; exact (Below.refl _ _).drew
  have u21 := cell_l ug 21 rfl
  have u38 := cell_l ug 38 rfl
  have f38 := free_in ug 38
  have HU := Lib.hid (And.intro uB ug)
  have hwr := HW.out
  clear hU hUV ug uB
  repeat still_step
  refine wpStill_nil ?_
  clear hwr
  go_wp2_with fail
  generalize hV : U.setCell ⟨g, 38, none⟩ (.int .i64 (r 15 + 8)) = V
  have vg : V.heap[g]? = some (.cells (runL s op a b c imm r pc (upd r' 15 (r 15 + 8)) pc' k n false).toArray 301 (0, 0)) := by
    rw [← hV]; exact block_set HU.out.2 38 (.int .i64 (r 15 + 8))
  have vo : Only (· = g) w V := by rw [← hV]; exact (Only.of_below HU.out.1).setCell _ _ (.inl rfl)
  have v21 := cell_l vg 21 rfl
  have HV := Lib.hid (And.intro vg vo)
  clear hV vg vo u21 u38 f38 v21
  go_at_call 244
  refine (mload_any g s gp cap ps op a b c imm (r 15) r pc _ pc' k n _ HV.out.1 HS.out.1 (HS.out.2.1.kept HV.out.2 (by rintro x hx rfl; exact HS.out.2.1.not_cells HG.out (by decide) (by decide) (by decide) hx)) j hk HS.out.2.2.1 HS.out.2.2.2).mono ?_
  rintro e w3 ⟨rfl, hb3⟩
  have H3 := Lib.hid hb3
  clear hb3
  go_wp2
  go_ret
  exact ⟨rfl, HV.out.2.trans (Only.of_below H3.out), (H3.out.block _ (lt_of_block HV.out.1)).trans HV.out.1⟩

set_option maxRecDepth 100000 in
set_option maxHeartbeats 2000000 in
theorem opreturn_any (g s gp cap : Nat) (ps : List Part) (op a b c imm : Int) (r : Nat → Int) (pc : Int) (r' : Nat → Int) (pc' k n : Int) (w : World) (hg : w.heap[g]? = some (.cells (runL s op a b c imm r pc r' pc' k n false).toArray 301 (0, 0)))
    (hA : AreasOk ps) (hsp : SpaceAt w s (.slice (some ⟨gp, 0, none⟩) ps.length cap) ps) (j : Nat) (hk : LastAt ps (r 15) j) (hin : r 15 - (ps[j]'hk.lt).at_ + 8 ≤ (ps[j]'hk.lt).size) (hm : (r 15).tmod 8 = 0) :
    Calls Tryz.prog 259 #[.pointer (some ⟨g, 0, none⟩)] w fun e w' => e = .returned (.tuple #[]) ∧ Only (· = g) w w' ∧
      w'.heap[g]? = some (.cells (runL s op a b c imm r pc (upd r' 15 (r 15 + 8)) (sgn64 (leN (readL (ps[j]'hk.lt) (r 15) 8))) k n false).toArray 301 (0, 0)) := by
  have HG := Lib.hid hg
  have HS := Lib.hid (And.intro hA (And.intro hsp (And.intro hin hm)))
  obtain ⟨v, hv⟩ : ∃ v, v = sgn64 (leN (readL (ps[j]'hk.lt) (r 15) 8)) := ⟨_, rfl⟩
  rw [← hv]
  have HV := Lib.hid hv
  clear hg hA hsp hin hm hv
  go_enter Tryz.func259, Tryz.ntmps259
  go_wp2_with fail
  go_at_call 260
  refine (mpop_any g s gp cap ps op a b c imm r pc r' pc' k n _ HG.out HS.out.1 HS.out.2.1 j hk HS.out.2.2.1 HS.out.2.2.2).mono ?_
  rintro e w1 ⟨rfl, ho1, hg1⟩
  rw [← HV.out]
  have f39 := free_in hg1 39
  have c39 := cell_l hg1 39 rfl
  have H1 := Lib.hid (And.intro ho1 hg1)
  clear ho1 hg1
  go_wp2
  go_end0
  exact ⟨rfl, H1.out.1.trans ((Only.refl (· = g) w1).setCell _ _ (.inl rfl)), block_set H1.out.2 39 (.int .i64 v)⟩

set_option maxRecDepth 100000 in
set_option maxHeartbeats 2000000 in
theorem mjump_any (g s : Nat) (op a b c imm : Int) (r : Nat → Int) (pc : Int) (r' : Nat → Int) (pc' k n : Int) (w : World) (hpc : IntKind.i64.wrap (pc + imm) = pc + imm) (hg : w.heap[g]? = some (.cells (runL s op a b c imm r pc r' pc' k n false).toArray 301 (0, 0))) :
    Calls Tryz.prog 250 #[.pointer (some ⟨g, 0, none⟩), .bool true] w fun e w' => e = .returned (.tuple #[]) ∧ Only (· = g) w w' ∧
      w'.heap[g]? = some (.cells (runL s op a b c imm r pc r' (pc + imm) k n false).toArray 301 (0, 0)) := by
  have HG := Lib.hid hg
  have HW := Lib.hid hpc
  clear hg hpc
  go_enter Tryz.func250, Tryz.ntmps250
  go_wp2
  refine wp_region_still_tail 15 (by kernel_rfl) (by kernel_rfl) ?_
  simp only [List.take_succ_cons, List.take_zero, List.drop_succ_cons, List.drop_zero]
  generalize hU : World.mk w.heap w.tape (w.drawn + 1) w.os w.output = U
  have hUV : U = w.drew := hU.symm
  have ug : U.heap[g]? = some (.cells (runL s op a b c imm r pc r' pc' k n false).toArray 301 (0, 0)) := by rw [hUV]; exact HG.out
  have uB : Below w.heap.size w U := by rw [hUV]; exact (Below.refl _ _).drew
  have u22 := cell_l ug 22 rfl
  have u5 := cell_l ug 5 rfl
  have u39 := cell_l ug 39 rfl
  have f39 := free_in ug 39
  have HU := Lib.hid (And.intro uB ug)
  have hwr := HW.out
  clear hU hUV ug uB
  repeat still_step
  refine wpStill_nil ?_
  clear hwr
  go_wp2
  go_end0
  exact ⟨rfl, (Only.of_below HU.out.1).setCell _ _ (.inl rfl), block_set HU.out.2 39 (.int .i64 (pc + imm))⟩

set_option maxRecDepth 100000 in
set_option maxHeartbeats 2000000 in
theorem opjump_any (g s : Nat) (op a b c imm : Int) (r : Nat → Int) (pc : Int) (r' : Nat → Int) (pc' k n : Int) (w : World) (hpc : IntKind.i64.wrap (pc + imm) = pc + imm) (hg : w.heap[g]? = some (.cells (runL s op a b c imm r pc r' pc' k n false).toArray 301 (0, 0))) :
    Calls Tryz.prog 249 #[.pointer (some ⟨g, 0, none⟩)] w fun e w' => e = .returned (.tuple #[]) ∧ Only (· = g) w w' ∧
      w'.heap[g]? = some (.cells (runL s op a b c imm r pc r' (pc + imm) k n false).toArray 301 (0, 0)) := by
  have HG := Lib.hid hg
  have HW := Lib.hid hpc
  clear hg hpc
  go_enter Tryz.func249, Tryz.ntmps249
  go_wp2_with fail
  go_at_call 250
  refine (mjump_any g s op a b c imm r pc r' pc' k n _ HW.out HG.out).mono ?_
  rintro e w1 ⟨rfl, ho1, hg1⟩
  have H1 := Lib.hid (And.intro ho1 hg1)
  clear ho1 hg1
  go_wp2
  go_end0
  exact ⟨rfl, H1.out.1, H1.out.2⟩
end Go.Proofs.YtkbilipgidcgeaaGreatDoor

namespace Go.Proofs.YtkbilipgidcgeaaGreatDoor
open Go.RowKit
attribute [local go_sem] ext_cell ext_frozen
attribute [local irreducible] cpuL

set_option maxRecDepth 100000 in
set_option maxHeartbeats 2000000 in
theorem step_zero (s : Nat) (r : Nat → Int) (w : World) :
    Calls Tryz.prog 78 #[.pointer (some ⟨s, 0, none⟩), .agg (cpuL r 0).toArray] w fun e w' => e = .returned (.tuple #[.agg (cpuL r 0).toArray, .agg #[.int .i64 4, .int .i64 0]]) ∧ Below w.heap.size w w' := by
  have HC := Lib.hid (show (cpuL r 0)[(16 : Nat)]? = some (.int .i64 0) by unfold cpuL; rfl)
  go_enter Tryz.func78, Tryz.ntmps78
  go_upto_region 1 with fail
  refine name_world fun V hV => ?_
  have vB : Below w.heap.size w V := by rw [← hV]; go_grown
  have vA : V.heap[w.heap.size]? = some (.cells (cpuL r 0).toArray 97 (0, 0)) := by rw [← hV]; exact block_old (block_old (heap_alloc_new _ _))
  have v4 : V.heap[w.heap.size + 1]? = some (.cells #[.int .i64 0, .int .i64 0, .int .i64 0, .int .i64 0, .int .i64 0, .int .i64 0, .int .i64 0, .int .i64 0, .int .i64 0, .int .i64 0, .int .i64 0, .int .i64 0, .int .i64 0, .int .i64 0, .int .i64 0, .int .i64 0, .int .i64 0] 97 (0, 0)) := by
    rw [← hV]; exact block_old (block_at (by simp))
  have v5 : V.heap[w.heap.size + 1 + 1]? = some (.cells #[.int .i64 0, .int .i64 0] 164 (0, 0)) := by rw [← hV]; exact block_at (by simp)
  have d16 := cell_l vA 16 HC.out
  have HV := Lib.hid (And.intro vB (And.intro vA (And.intro v4 v5)))
  clear hV vB vA v4 v5
  go_wp2_with (first
    | (refine wpList_load_row rfl 97 (.tmp 3) rfl w.heap.size rfl 97 (cpuL r 0).toArray (0, 0) _ HV.out.2.1 Tryz.underlying97 rfl (cpu_size _ _) ?_)
    | ((with_reducible refine at_store_law ?_); refine wpList_store_row rfl 97 _ _ rfl _ _ rfl rfl _ _ HV.out.2.2.1 (cpu_size _ _) (by unfold cpuL; rfl) (cpu_one _ _) ?_)
    | ((with_reducible refine at_store_law ?_); refine wpList_store_row rfl 164 _ _ rfl _ _ rfl rfl _ _ ((setRow_other _ _ _ _ (by omega)).trans HV.out.2.2.2) (by kernel_rfl) (by rfl) (by simp [Value.oneCell']) ?_))
  obtain ⟨vB, vA, v4, v5⟩ := HV.out
  have e5 := (setRow_other V (w.heap.size + 1) (w.heap.size + 1 + 1) (cpuL r 0).toArray (by omega)).trans v5
  refine bodyPost_ret (results_cell_cell rfl _ _ (w.heap.size + 1) _ _ _ _ rfl ((setRow_other _ _ _ _ (by omega)).trans (by apply setRow_heap; exact v4)) Tryz.underlying97 rfl (cpu_size r 0) (w.heap.size + 1 + 1) _ _ _ _ rfl (by apply setRow_heap; exact e5) Tryz.underlying164 rfl (by kernel_rfl)) rfl ?_
  exact ⟨rfl, below_setRow (below_setRow vB (by omega) _) (by omega) _⟩
end Go.Proofs.YtkbilipgidcgeaaGreatDoor

namespace Go.Proofs.YtkbilipgidcgeaaGreatDoor
open Go.RowKit
attribute [local go_sem] ext_cell ext_frozen

theorem idx15 (w : World) : (Instr.index 303 (.agg opsArr) (.int .i64 15)).run Tryz.prog w = .ok (.func (.func 243) #[] #[]) w := by kernel_rfl
theorem idx6 (w : World) : (Instr.index 303 (.agg opsArr) (.int .i64 6)).run Tryz.prog w = .ok (.func (.func 232) #[] #[]) w := by kernel_rfl
theorem idx26 (w : World) : (Instr.index 303 (.agg opsArr) (.int .i64 26)).run Tryz.prog w = .ok (.func (.func 259) #[] #[]) w := by kernel_rfl
theorem idx19 (w : World) : (Instr.index 303 (.agg opsArr) (.int .i64 19)).run Tryz.prog w = .ok (.func (.func 249) #[] #[]) w := by kernel_rfl
theorem call15 (args : Array Value) (w : World) : (callFunc 243 args).run Tryz.prog w = .ok (.enter 243 args) w := by simp [go_sem]
theorem call6 (args : Array Value) (w : World) : (callFunc 232 args).run Tryz.prog w = .ok (.enter 232 args) w := by simp [go_sem]
theorem call26 (args : Array Value) (w : World) : (callFunc 259 args).run Tryz.prog w = .ok (.enter 259 args) w := by simp [go_sem]
theorem call19 (args : Array Value) (w : World) : (callFunc 249 args).run Tryz.prog w = .ok (.enter 249 args) w := by simp [go_sem]

theorem putL_twice (D X : List UInt8) (o : Nat) (h : o + X.length ≤ D.length) : putL (putL D o X) o X = putL D o X := by
  have h1 : (D.take o).length = o := by simp; omega
  have h2 : (D.take o ++ X).length = o + X.length := by rw [List.length_append, h1]
  have e1 : (putL D o X).take o = D.take o := by unfold putL; rw [List.append_assoc, List.take_left' h1]
  have e2 : (putL D o X).drop (o + X.length) = D.drop (o + X.length) := by unfold putL; rw [List.drop_left' h2]
  show (putL D o X).take o ++ X ++ (putL D o X).drop (o + X.length) = _
  rw [e1, e2]
  rfl

theorem wordL_length (n : Int) : (wordL n).length = 8 := by simp [wordL]

/-- The third converter: it writes and jumps back, for ever. -/
theorem steps96 (s b1 b2 b3 : Nat) (d D : List UInt8) (hD : D.length = 256) :
    Steps s 2560 1000 (fun _ => regs0 896) (fun i => if i % 2 = 0 then 608 else 616) (fun _ => 0) (fun _ => 0) (fun i => labP d b1 b2 b3 (if i = 0 then D else putL D 136 (wordL 896))) (fun _ => List.replicate 1024 0) where
  step := by
    intro i hi gp cap blk W hA hsp hf
    have hS : ∀ x, (∃ p ∈ labP d b1 b2 b3 (if i = 0 then D else putL D 136 (wordL 896)) ++ [stackQ 2560 blk (List.replicate 1024 0)], p.blk = x) → x < W.heap.size := by
      rintro x ⟨p, hp, rfl⟩
      exact hsp.lt _ (.inr (.inr ⟨p, hp, rfl⟩))
    rw [if_neg (Nat.succ_ne_zero i)]
    by_cases h2 : i % 2 = 0
    · have h3 : ¬ (i + 1) % 2 = 0 := by omega
      rw [if_pos h2, if_neg h3]
      refine step_any s gp cap _ _ 246 17 1 1 0 8 (regs0 896) 608 (regs0 896) 616 0 0 _ W hA hsp hf (fetch_lab d _ _ b1 b2 b3 blk 12 (by decide)) (by omega) idx17 ?_ hS (by omega) call17
      intro V g hg hsv
      have hla : LastAt (labP d b1 b2 b3 (if i = 0 then D else putL D 136 (wordL 896)) ++ [stackQ 2560 blk (List.replicate 1024 0)]) (regs0 896 1 + 8) 1 := last_data (by show (768 : Int) ≤ 896 + 8; omega) (by show (896 : Int) + 8 < 1280; omega)
      refine (opstore_any g s gp cap _ 17 0 8 1 1 (by omega) (by omega) (regs0 896) 608 (regs0 896) (608 + 8) 0 0 V hg hA hsv 1 hla (by show (896 : Int) + 8 - 768 + 8 ≤ 256; omega) (by show ((896 : Int) + 8).tmod 8 = 0; decide) (by show (1 : Int) ≠ 0; decide)).mono ?_
      rintro e w' ⟨rfl, ho, hg', hs'⟩
      refine ⟨rfl, ho.mono ?_, hg', ?_⟩
      · rintro x _ (h | h)
        · exact .inl h
        · exact .inr ⟨_, List.getElem_mem hla.lt, h.symm⟩
      · have hs2 : SpaceAt w' s (.slice (some ⟨gp, 0, none⟩) (labP d b1 b2 b3 (if i = 0 then D else putL D 136 (wordL 896)) ++ [stackQ 2560 blk (List.replicate 1024 0)]).length cap) (labP d b1 b2 b3 (putL (if i = 0 then D else putL D 136 (wordL 896)) 136 (wordL 896)) ++ [stackQ 2560 blk (List.replicate 1024 0)]) := hs'
        have he : putL (if i = 0 then D else putL D 136 (wordL 896)) 136 (wordL 896) = putL D 136 (wordL 896) := by
          by_cases h0 : i = 0
          · rw [if_pos h0]
          · rw [if_neg h0]; exact putL_twice _ _ _ (by rw [wordL_length, hD]; omega)
        rw [he] at hs2
        exact hs2
    · have h3 : (i + 1) % 2 = 0 := by omega
      have h0 : ¬ i = 0 := by omega
      rw [if_neg h2, if_pos h3]
      rw [if_neg h0] at hA hsp hS ⊢
      refine step_any s gp cap _ _ 249 19 0 0 0 (-8) (regs0 896) 616 (regs0 896) 608 0 0 _ W hA hsp hf (fetch_lab d _ _ b1 b2 b3 blk 13 (by decide)) (by omega) idx19 ?_ hS (by omega) call19
      intro V g hg hsv
      refine (opjump_any g s 19 0 0 0 (-8) (regs0 896) 616 (regs0 896) (616 + 8) 0 0 V (by decide) hg).mono ?_
      rintro e w' ⟨rfl, ho, hg'⟩
      refine ⟨rfl, ho.mono (fun _ _ h => .inl h), hg', hsv.kept ho (by rintro x hx rfl; exact hsv.not_cells hg (by decide) (by decide) (by decide) hx)⟩
  areas := fun i blk => areas_lab d _ _ b1 b2 b3 blk
  same := fun i => rfl
  len := fun i => rfl
  pos := by omega
  few := by omega

/-- What the first converter's registers, its place and the data are, step by step. -/
def regs8 (x y : Int) : Nat → Nat → Int
  | 0 => regs0 896
  | 1 => upd (regs0 896) 2 x
  | 2 => upd (upd (regs0 896) 2 x) 3 y
  | 3 => upd (upd (upd (regs0 896) 2 x) 3 y) 2 (IntKind.i64.wrap (x + y))
  | 4 => upd (upd (upd (regs0 896) 2 x) 3 y) 2 (IntKind.i64.wrap (x + y))
  | _ => upd (upd (upd (upd (regs0 896) 2 x) 3 y) 2 (IntKind.i64.wrap (x + y))) 15 3584
def pc8 : Nat → Int
  | 0 => 520
  | 1 => 528
  | 2 => 536
  | 3 => 544
  | 4 => 552
  | _ => 0
def dat8 (D : List UInt8) (v : Int) : Nat → List UInt8
  | 0 => D
  | 1 => D
  | 2 => D
  | 3 => D
  | _ => putL D 136 (wordL v)

theorem last_stack {d D T : List UInt8} {b1 b2 b3 blk : Nat} {a : Int} (h1 : 2560 ≤ a) : LastAt (labP d b1 b2 b3 D ++ [stackQ 2560 blk T]) a 3 where
  lt := by simp [labP]
  le := by show (2560 : Int) ≤ a; omega
  next := by
    intro j hj h0
    simp [labP] at hj
    omega

set_option maxRecDepth 100000 in
theorem stack_zero (blk : Nat) : sgn64 (leN (readL (stackQ 2560 blk (List.replicate 1024 0)) 3576 8)) = 0 := by
  have : readL (stackQ 2560 blk (List.replicate 1024 0)) 3576 8 = List.replicate 8 0 := by
    unfold readL stackQ newPart
    dsimp only
    rw [show (3576 - 2560 : Int).toNat = 1016 from rfl, List.drop_replicate, List.take_replicate]
    rfl
  rw [this]
  simp only [List.replicate, leN]
  decide

/-- The first converter: the sum of two words. -/
theorem steps8 (s b1 b2 b3 : Nat) (d D : List UInt8) (hD : D.length = 256) (x y : Int) (hx : sgn64 (leN (readL (dataQ b2 D) 768 8)) = x) (hy : sgn64 (leN (readL (dataQ b2 D) 776 8)) = y) :
    Steps s 2560 6 (regs8 x y) pc8 (fun i => if i = 5 then 4 else 0) (fun _ => 0) (fun i => labP d b1 b2 b3 (dat8 D (IntKind.i64.wrap (x + y)) i)) (fun _ => List.replicate 1024 0) where
  step := by
    intro i hi gp cap blk W hA hsp hf
    have hS : ∀ z, (∃ p ∈ labP d b1 b2 b3 (dat8 D (IntKind.i64.wrap (x + y)) i) ++ [stackQ 2560 blk (List.replicate 1024 0)], p.blk = z) → z < W.heap.size := by
      rintro z ⟨p, hp, rfl⟩
      exact hsp.lt _ (.inr (.inr ⟨p, hp, rfl⟩))
    have h6 : i = 0 ∨ i = 1 ∨ i = 2 ∨ i = 3 ∨ i = 4 ∨ i = 5 := by omega
    rcases h6 with rfl | rfl | rfl | rfl | rfl | rfl
    · refine step_any s gp cap _ _ 243 15 2 0 0 0 (regs0 896) 520 (upd (regs0 896) 2 x) 528 0 0 _ W hA hsp hf (fetch_lab d _ _ b1 b2 b3 blk 1 (by decide)) (by omega) idx15 ?_ hS (by omega) call15
      intro V g hg hsv
      have hla : LastAt (labP d b1 b2 b3 D ++ [stackQ 2560 blk (List.replicate 1024 0)]) (regs0 896 0 + 0) 1 := last_data (by show (768 : Int) ≤ 768 + 0; omega) (by show (768 : Int) + 0 < 1280; omega)
      refine (opload_any g s gp cap _ 15 0 0 2 0 (by omega) (by omega) (regs0 896) 520 (regs0 896) (520 + 8) 0 0 V hg hA hsv 1 hla (by show (768 : Int) + 0 - 768 + 8 ≤ 256; omega) (by show ((768 : Int) + 0).tmod 8 = 0; decide)).mono ?_
      rintro e w' ⟨rfl, ho, hg'⟩
      exact ⟨rfl, ho.mono (fun _ _ h => .inl h), hg'.trans (congrArg (fun z => some (Obj.cells (runL s 15 2 0 0 0 (regs0 896) 520 (upd (regs0 896) 2 z) 528 0 0 false).toArray 301 (0, 0))) hx), hsv.kept ho (by rintro z hz rfl; exact hsv.not_cells hg (by decide) (by decide) (by decide) hz)⟩
    · refine step_any s gp cap _ _ 243 15 3 0 0 8 (upd (regs0 896) 2 x) 528 (upd (upd (regs0 896) 2 x) 3 y) 536 0 0 _ W hA hsp hf (fetch_lab d _ _ b1 b2 b3 blk 2 (by decide)) (by omega) idx15 ?_ hS (by omega) call15
      intro V g hg hsv
      have hla : LastAt (labP d b1 b2 b3 D ++ [stackQ 2560 blk (List.replicate 1024 0)]) (upd (regs0 896) 2 x 0 + 8) 1 := last_data (by show (768 : Int) ≤ 768 + 8; omega) (by show (768 : Int) + 8 < 1280; omega)
      refine (opload_any g s gp cap _ 15 0 8 3 0 (by omega) (by omega) (upd (regs0 896) 2 x) 528 (upd (regs0 896) 2 x) (528 + 8) 0 0 V hg hA hsv 1 hla (by show (768 : Int) + 8 - 768 + 8 ≤ 256; omega) (by show ((768 : Int) + 8).tmod 8 = 0; decide)).mono ?_
      rintro e w' ⟨rfl, ho, hg'⟩
      exact ⟨rfl, ho.mono (fun _ _ h => .inl h), hg'.trans (congrArg (fun z => some (Obj.cells (runL s 15 3 0 0 8 (upd (regs0 896) 2 x) 528 (upd (upd (regs0 896) 2 x) 3 z) 536 0 0 false).toArray 301 (0, 0))) hy), hsv.kept ho (by rintro z hz rfl; exact hsv.not_cells hg (by decide) (by decide) (by decide) hz)⟩
    · refine step_any s gp cap _ _ 232 6 2 2 3 0 (upd (upd (regs0 896) 2 x) 3 y) 536 (upd (upd (upd (regs0 896) 2 x) 3 y) 2 (IntKind.i64.wrap (x + y))) 544 0 0 _ W hA hsp hf (fetch_lab d _ _ b1 b2 b3 blk 3 (by decide)) (by omega) idx6 ?_ hS (by omega) call6
      intro V g hg hsv
      refine (opadd_any g s 6 0 2 2 3 (by omega) (by omega) (by omega) (upd (upd (regs0 896) 2 x) 3 y) 536 (upd (upd (regs0 896) 2 x) 3 y) (536 + 8) 0 0 V hg).mono ?_
      rintro e w' ⟨rfl, ho, hg'⟩
      exact ⟨rfl, ho.mono (fun _ _ h => .inl h), hg', hsv.kept ho (by rintro z hz rfl; exact hsv.not_cells hg (by decide) (by decide) (by decide) hz)⟩
    · refine step_any s gp cap _ _ 246 17 2 1 0 8 (upd (upd (upd (regs0 896) 2 x) 3 y) 2 (IntKind.i64.wrap (x + y))) 544 (upd (upd (upd (regs0 896) 2 x) 3 y) 2 (IntKind.i64.wrap (x + y))) 552 0 0 _ W hA hsp hf (fetch_lab d _ _ b1 b2 b3 blk 4 (by decide)) (by omega) idx17 ?_ hS (by omega) call17
      intro V g hg hsv
      have hla : LastAt (labP d b1 b2 b3 D ++ [stackQ 2560 blk (List.replicate 1024 0)]) (upd (upd (upd (regs0 896) 2 x) 3 y) 2 (IntKind.i64.wrap (x + y)) 1 + 8) 1 := last_data (by show (768 : Int) ≤ 896 + 8; omega) (by show (896 : Int) + 8 < 1280; omega)
      refine (opstore_any g s gp cap _ 17 0 8 2 1 (by omega) (by omega) (upd (upd (upd (regs0 896) 2 x) 3 y) 2 (IntKind.i64.wrap (x + y))) 544 (upd (upd (upd (regs0 896) 2 x) 3 y) 2 (IntKind.i64.wrap (x + y))) (544 + 8) 0 0 V hg hA hsv 1 hla (by show (896 : Int) + 8 - 768 + 8 ≤ 256; omega) (by show ((896 : Int) + 8).tmod 8 = 0; decide) (by show (1 : Int) ≠ 0; decide)).mono ?_
      rintro e w' ⟨rfl, ho, hg', hs'⟩
      refine ⟨rfl, ho.mono ?_, hg', hs'⟩
      rintro z _ (h | h)
      · exact .inl h
      · exact .inr ⟨_, List.getElem_mem hla.lt, h.symm⟩
    · refine step_any s gp cap _ _ 259 26 0 0 0 0 (upd (upd (upd (regs0 896) 2 x) 3 y) 2 (IntKind.i64.wrap (x + y))) 552 (upd (upd (upd (upd (regs0 896) 2 x) 3 y) 2 (IntKind.i64.wrap (x + y))) 15 3584) 0 0 0 _ W hA hsp hf (fetch_lab d _ _ b1 b2 b3 blk 5 (by decide)) (by omega) idx26 ?_ hS (by omega) call26
      intro V g hg hsv
      have hla : LastAt (labP d b1 b2 b3 (putL D 136 (wordL (IntKind.i64.wrap (x + y)))) ++ [stackQ 2560 blk (List.replicate 1024 0)]) (upd (upd (upd (regs0 896) 2 x) 3 y) 2 (IntKind.i64.wrap (x + y)) 15) 3 := last_stack (by show (2560 : Int) ≤ 2560 + 1024 - 8; omega)
      refine (opreturn_any g s gp cap _ 26 0 0 0 0 (upd (upd (upd (regs0 896) 2 x) 3 y) 2 (IntKind.i64.wrap (x + y))) 552 (upd (upd (upd (regs0 896) 2 x) 3 y) 2 (IntKind.i64.wrap (x + y))) (552 + 8) 0 0 V hg hA hsv 3 hla (by show (2560 : Int) + 1024 - 8 - 2560 + 8 ≤ 1024; omega) (by show ((2560 : Int) + 1024 - 8).tmod 8 = 0; decide)).mono ?_
      rintro e w' ⟨rfl, ho, hg'⟩
      exact ⟨rfl, ho.mono (fun _ _ h => .inl h), hg'.trans (congrArg (fun z => some (Obj.cells (runL s 26 0 0 0 0 (upd (upd (upd (regs0 896) 2 x) 3 y) 2 (IntKind.i64.wrap (x + y))) 552 (upd (upd (upd (upd (regs0 896) 2 x) 3 y) 2 (IntKind.i64.wrap (x + y))) 15 3584) z 0 0 false).toArray 301 (0, 0))) (stack_zero blk)), hsv.kept ho (by rintro z hz rfl; exact hsv.not_cells hg (by decide) (by decide) (by decide) hz)⟩
    · refine (step_zero s _ W).mono ?_
      rintro e w' ⟨rfl, hb⟩
      exact ⟨rfl, Only.of_below hb, hsp.below hb⟩
  areas := fun i blk => areas_lab d _ _ b1 b2 b3 blk
  same := fun i => rfl
  len := fun i => rfl
  pos := by omega
  few := by omega
end Go.Proofs.YtkbilipgidcgeaaGreatDoor
