/- machine: an instruction in execution. machine: what executes a store, a safe point, a system call. machine: fetch. machine: the table of what executes. -/
import Derived.StillTailTactics
import Derived.Deep.QuietTactic
import Derived.BigQuiet
import Derived.Test.YtkbilipgidcgeaaGreatDoorW12
import Derived.Test.YtkbilipgidcgeaaGreatDoorW10
import Derived.Test.YtkbilipgidcgeaaGreatDoorW29
import Derived.Test.YtkbilipgidcgeaaGreatDoorW25
import Derived.IntWalk
import Derived.Test.YtkbilipgidcgeaaGreatDoorW14
import Derived.Test.YtkbilipgidcgeaaGreatDoorW30
set_option linter.unusedVariables false
set_option linter.unusedSimpArgs false
namespace Go.Proofs.YtkbilipgidcgeaaGreatDoor
open Go.RowKit
attribute [local go_sem] ext_cell ext_frozen

/-- A processor's cells. -/
def cpuL (r : Nat → Int) (pc : Int) : List Value := [.int .i64 (r 0), .int .i64 (r 1), .int .i64 (r 2), .int .i64 (r 3), .int .i64 (r 4), .int .i64 (r 5), .int .i64 (r 6), .int .i64 (r 7), .int .i64 (r 8), .int .i64 (r 9), .int .i64 (r 10), .int .i64 (r 11), .int .i64 (r 12), .int .i64 (r 13), .int .i64 (r 14), .int .i64 (r 15), .int .i64 pc]
/-- An instruction in execution: its cells. -/
def runL (s : Nat) (op a b c imm : Int) (r : Nat → Int) (pc : Int) (r' : Nat → Int) (pc' k n : Int) (bad : Bool) : List Value :=
  .pointer (some ⟨s, 0, none⟩) :: .int .i64 op :: .int .i64 a :: .int .i64 b :: .int .i64 c :: .int .i64 imm :: (cpuL r pc ++ (cpuL r' pc' ++ [.int .i64 k, .int .i64 n, .bool bad]))
/-- A register set. -/
def upd (r : Nat → Int) (a : Nat) (v : Int) : Nat → Int := fun i => if i = a then v else r i

theorem below16 {a : Nat} (h : a < 16) : a = 0 ∨ a = 1 ∨ a = 2 ∨ a = 3 ∨ a = 4 ∨ a = 5 ∨ a = 6 ∨ a = 7 ∨ a = 8 ∨ a = 9 ∨ a = 10 ∨ a = 11 ∨ a = 12 ∨ a = 13 ∨ a = 14 ∨ a = 15 := by omega

theorem runL_reg (s : Nat) (op a b c imm : Int) (r : Nat → Int) (pc : Int) (r' : Nat → Int) (pc' k n : Int) (bad : Bool) (i : Nat) (h : i < 16) : (runL s op a b c imm r pc r' pc' k n bad)[6 + i]? = some (.int .i64 (r i)) := by
  rcases below16 h with rfl | rfl | rfl | rfl | rfl | rfl | rfl | rfl | rfl | rfl | rfl | rfl | rfl | rfl | rfl | rfl <;> rfl
theorem runL_reg' (s : Nat) (op a b c imm : Int) (r : Nat → Int) (pc : Int) (r' : Nat → Int) (pc' k n : Int) (bad : Bool) (i : Nat) (h : i < 16) : (runL s op a b c imm r pc r' pc' k n bad)[23 + i]? = some (.int .i64 (r' i)) := by
  rcases below16 h with rfl | rfl | rfl | rfl | rfl | rfl | rfl | rfl | rfl | rfl | rfl | rfl | rfl | rfl | rfl | rfl <;> rfl
theorem runL_set (s : Nat) (op a b c imm : Int) (r : Nat → Int) (pc : Int) (r' : Nat → Int) (pc' k n : Int) (bad : Bool) (i : Nat) (h : i < 16) (v : Int) : (runL s op a b c imm r pc r' pc' k n bad).set (23 + i) (.int .i64 v) = runL s op a b c imm r pc (upd r' i v) pc' k n bad := by
  rcases below16 h with rfl | rfl | rfl | rfl | rfl | rfl | rfl | rfl | rfl | rfl | rfl | rfl | rfl | rfl | rfl | rfl <;> rfl

set_option maxRecDepth 100000 in
set_option maxHeartbeats 1000000 in
theorem mb_any (g s : Nat) (op a c imm : Int) (b : Nat) (hb : b < 16) (r : Nat → Int) (pc : Int) (r' : Nat → Int) (pc' k n : Int) (bad : Bool) (w : World) (hg : w.heap[g]? = some (.cells (runL s op a b c imm r pc r' pc' k n bad).toArray 301 (0, 0))) :
    Calls Tryz.prog 231 #[.pointer (some ⟨g, 0, none⟩)] w fun e w' => e = .returned (.int .i64 (r b)) ∧ Below w.heap.size w w' := by
  have c3 := cell_l hg 3 rfl
  have cr := cell_l hg (6 + b) (runL_reg _ _ _ _ _ _ _ _ _ _ _ _ _ b hb)
  have b0 : (0 : Int) ≤ (b : Int) := by omega
  have b1 : (b : Int) < 16 := by omega
  clear hg
  go_enter Tryz.func231, Tryz.ntmps231
  go_wp2
  go_quiet (fail)
  go_wp2
  go_ret
  exact ⟨rfl, below_drewN _ _⟩

set_option maxRecDepth 100000 in
set_option maxHeartbeats 1000000 in
theorem mcc_any (g s : Nat) (op a b imm : Int) (c : Nat) (hb : c < 16) (r : Nat → Int) (pc : Int) (r' : Nat → Int) (pc' k n : Int) (bad : Bool) (w : World) (hg : w.heap[g]? = some (.cells (runL s op a b c imm r pc r' pc' k n bad).toArray 301 (0, 0))) :
    Calls Tryz.prog 233 #[.pointer (some ⟨g, 0, none⟩)] w fun e w' => e = .returned (.int .i64 (r c)) ∧ Below w.heap.size w w' := by
  have c4 := cell_l hg 4 rfl
  have cr := cell_l hg (6 + c) (runL_reg _ _ _ _ _ _ _ _ _ _ _ _ _ c hb)
  have b0 : (0 : Int) ≤ (c : Int) := by omega
  have b1 : (c : Int) < 16 := by omega
  clear hg
  go_enter Tryz.func233, Tryz.ntmps233
  go_wp2
  go_quiet (fail)
  go_wp2
  go_ret
  exact ⟨rfl, below_drewN _ _⟩

set_option maxRecDepth 100000 in
set_option maxHeartbeats 1000000 in
theorem mset_any (g s : Nat) (op b c imm v : Int) (a : Nat) (ha : a < 16) (r : Nat → Int) (pc : Int) (r' : Nat → Int) (pc' k n : Int) (bad : Bool) (w : World) (hg : w.heap[g]? = some (.cells (runL s op a b c imm r pc r' pc' k n bad).toArray 301 (0, 0))) :
    Calls Tryz.prog 228 #[.pointer (some ⟨g, 0, none⟩), .int .i64 v] w fun e w' => e = .returned (.tuple #[]) ∧ Only (· = g) w w' ∧ w'.heap[g]? = some (.cells (runL s op a b c imm r pc (upd r' a v) pc' k n bad).toArray 301 (0, 0)) := by
  have HG := Lib.hid hg
  have b0 : (0 : Int) ≤ (a : Int) := by omega
  have b1 : (a : Int) < 16 := by omega
  clear hg
  go_enter Tryz.func228, Tryz.ntmps228
  go_wp2
  refine wp_region_still_tail 11 (by kernel_rfl) (by kernel_rfl) ?_
  simp only [List.take_succ_cons, List.take_zero, List.drop_succ_cons, List.drop_zero]
  generalize hU : World.mk w.heap w.tape (w.drawn + 1) w.os w.output = U
  have hUV : U = w.drew := hU.symm
  have ug : U.heap[g]? = some (.cells (runL s op a b c imm r pc r' pc' k n bad).toArray 301 (0, 0)) := by rw [hUV]; exact HG.out
  have uB : Below w.heap.size w U := by rw [hUV]; exact (Below.refl _ _).drew
  have u2 := cell_l ug 2 rfl
  have ur := cell_l ug (23 + a) (runL_reg' _ _ _ _ _ _ _ _ _ _ _ _ _ a ha)
  have uf := free_in ug (23 + a)
  have HU := Lib.hid (And.intro uB ug)
  clear hU hUV ug uB
  repeat still_step
  refine wpStill_nil ?_
  go_wp2
  go_end0
  have h := block_set HU.out.2 (23 + a) (.int .i64 v)
  rw [runL_set _ _ _ _ _ _ _ _ _ _ _ _ _ a ha] at h
  exact ⟨rfl, (Only.of_below HU.out.1).setCell _ _ (.inl rfl), h⟩

set_option maxRecDepth 100000 in
set_option maxHeartbeats 1000000 in
theorem mstore_any (g s gp cap : Nat) (ps : List Part) (op a b c imm at_ v : Int) (r : Nat → Int) (pc : Int) (r' : Nat → Int) (pc' k n : Int) (w : World) (hg : w.heap[g]? = some (.cells (runL s op a b c imm r pc r' pc' k n false).toArray 301 (0, 0)))
    (hA : AreasOk ps) (hsp : SpaceAt w s (.slice (some ⟨gp, 0, none⟩) ps.length cap) ps) (j : Nat) (hk : LastAt ps at_ j) (hin : at_ - (ps[j]'hk.lt).at_ + 8 ≤ (ps[j]'hk.lt).size) (hm : at_.tmod 8 = 0) (hkind : (ps[j]'hk.lt).kind ≠ 0) :
    Calls Tryz.prog 247 #[.pointer (some ⟨g, 0, none⟩), .int .i64 at_, .int .i64 8, .int .i64 v] w fun e w' => e = .returned (.tuple #[]) ∧ Only (fun x => x = g ∨ x = (ps[j]'hk.lt).blk) w w' ∧
      w'.heap[g]? = some (.cells (runL s op a b c imm r pc r' pc' k n false).toArray 301 (0, 0)) ∧ SpaceAt w' s (.slice (some ⟨gp, 0, none⟩) ps.length cap) (ps.set j ((ps[j]'hk.lt).put at_ (wordL v))) := by
  have HG := Lib.hid hg
  have HS := Lib.hid (And.intro hA (And.intro hsp (And.intro hin (And.intro hm hkind))))
  have c0 := cell_l hg 0 rfl
  have c42 := cell_l hg 42 rfl
  clear hg hA hsp hin hm hkind
  go_enter Tryz.func247, Tryz.ntmps247
  go_wp2_with fail
  go_at_call 40
  refine (store_word s gp cap ps at_ v _ HS.out.1 HS.out.2.1 j hk _ rfl HS.out.2.2.1 HS.out.2.2.2.1 HS.out.2.2.2.2).mono ?_
  rintro e w1 ⟨rfl, ho1, hsp1⟩
  have hne : g ≠ (ps[j]'hk.lt).blk := by
    intro e
    exact HS.out.2.1.not_cells HG.out (by decide) (by decide) (by decide) (.inr (.inr ⟨_, List.getElem_mem hk.lt, e.symm⟩))
  have kg := ho1.kept HG.out hne
  have d42 := cell_l kg 42 rfl
  have f42 := free_in kg 42
  have H1 := Lib.hid (And.intro ho1 (And.intro hsp1 kg))
  clear ho1 hsp1 kg c0 c42
  go_wp2
  go_end0
  obtain ⟨ho1, hsp1, kg⟩ := H1.out
  have h := block_set kg 42 (.bool false)
  have h2 : (runL s op a b c imm r pc r' pc' k n false).set 42 (.bool false) = runL s op a b c imm r pc r' pc' k n false := rfl
  rw [h2] at h
  refine ⟨rfl, (ho1.mono (fun _ _ h => .inr h)).setCell _ _ (.inl (.inl rfl)), h, hsp1.kept ((Only.refl (· = g) w1).setCell ⟨g, 42, none⟩ _ (.inl rfl)) ?_⟩
  rintro x hx rfl
  exact hsp1.not_cells kg (by decide) (by decide) (by decide) hx
end Go.Proofs.YtkbilipgidcgeaaGreatDoor

namespace Go.Proofs.YtkbilipgidcgeaaGreatDoor
open Go.RowKit
attribute [local go_sem] ext_cell ext_frozen

set_option maxRecDepth 100000 in
set_option maxHeartbeats 2000000 in
theorem opstore_any (g s gp cap : Nat) (ps : List Part) (op c imm : Int) (ra b : Nat) (ha : ra < 16) (hlb : b < 16) (r : Nat → Int) (pc : Int) (r' : Nat → Int) (pc' k n : Int) (w : World) (hg : w.heap[g]? = some (.cells (runL s op ra b c imm r pc r' pc' k n false).toArray 301 (0, 0)))
    (hA : AreasOk ps) (hsp : SpaceAt w s (.slice (some ⟨gp, 0, none⟩) ps.length cap) ps) (j : Nat) (hk : LastAt ps (r b + imm) j) (hin : r b + imm - (ps[j]'hk.lt).at_ + 8 ≤ (ps[j]'hk.lt).size) (hm : (r b + imm).tmod 8 = 0) (hkind : (ps[j]'hk.lt).kind ≠ 0) :
    Calls Tryz.prog 246 #[.pointer (some ⟨g, 0, none⟩)] w fun e w' => e = .returned (.tuple #[]) ∧ Only (fun x => x = g ∨ x = (ps[j]'hk.lt).blk) w w' ∧
      w'.heap[g]? = some (.cells (runL s op ra b c imm r pc r' pc' k n false).toArray 301 (0, 0)) ∧ SpaceAt w' s (.slice (some ⟨gp, 0, none⟩) ps.length cap) (ps.set j ((ps[j]'hk.lt).put (r b + imm) (wordL (r ra)))) := by
  have HS := Lib.hid (And.intro hA (And.intro hsp (And.intro hin (And.intro hm hkind))))
  have a0 : (0 : Int) ≤ (ra : Int) := by omega
  have a1 : (ra : Int) < 16 := by omega
  have hwr : IntKind.i64.wrap (r b + imm) = r b + imm := by
    have h1 := (hA.each _ (List.getElem_mem hk.lt))
    have h2 := hk.le
    exact IntWalk.i64_in _ (by omega)
  have HW := Lib.hid hwr
  clear hA hsp hin hm hkind hwr
  go_enter Tryz.func246, Tryz.ntmps246
  refine wp_region_facts [.val (.pointer (some ⟨g, 0, none⟩)), .val (.pointer (some ⟨g, 0, none⟩)), .val (.int .i64 (r b)), .val (.pointer (some ⟨g, 0, none⟩)), .val (.pointer (some ⟨g, 0, none⟩)), .val (.pointer (some ⟨g, 1, none⟩)), .val (.pointer (some ⟨g, 5, none⟩)), .val (.int .i64 imm), .val (.int .i64 (r b + imm)), .val (.pointer (some ⟨g, 0, none⟩)), .val (.pointer (some ⟨g, 0, none⟩)), .val (.pointer (some ⟨g, 0, none⟩)), .val (.pointer (some ⟨g, 1, none⟩)), .val (.pointer (some ⟨g, 2, none⟩)), .val (.int .i64 ra), .val (.pointer (some ⟨g, 0, none⟩)), .val (.pointer (some ⟨g, 6, none⟩)), .val (.pointer (some ⟨g, 6, none⟩)), .val (.pointer (some ⟨g, 6 + ra, none⟩)), .val (.int .i64 (r ra))] (by kernel_rfl) (by kernel_rfl) ?_ ?_
  · simp only [stepsAll, List.take, List.length]
    refine ⟨?_, ?_, ?_, ?_, ?_, ?_, ?_, ?_, ?_, ?_, ?_, ?_, ?_, ?_, ?_, ?_, ?_, ?_, ?_, ?_, ?_⟩
    all_goals first | trivial | (intro a wr hb hf hd)
    all_goals have hf0 : a.tmps[(0 : Nat)]?.getD undef = .pointer (some ⟨g, 0, none⟩) := (hf 0 (by decide +kernel)).trans rfl
    · exact grow_tmp _ rfl ⟨hf0, fun h => by cases h⟩
    · exact grow_tmp _ rfl ⟨hf0, fun h => by cases h⟩
    · have h3 : a.tmps[(3 : Nat)]?.getD undef = .pointer (some ⟨g, 0, none⟩) := hd 1 (by simp) (by kernel_rfl)
      refine grow_call (f := 231) (args := #[.pointer (some ⟨g, 0, none⟩)]) (by simp [execOp, h3, go_sem]) ?_
      refine (mb_any g s op _ c imm b hlb r pc r' pc' k n false _ ((hb.block _ (lt_of_block hg)).trans hg)).mono ?_
      rintro e w3 ⟨rfl, hb3⟩
      exact ⟨_, rfl, hb3, rfl, fun h => by cases h⟩
    · exact grow_tmp _ rfl ⟨hf0, fun h => by cases h⟩
    · have h5 : a.tmps[(5 : Nat)]?.getD undef = .pointer (some ⟨g, 0, none⟩) := hd 3 (by simp) (by kernel_rfl)
      exact grow_value (v := .pointer (some ⟨g, 0, none⟩)) (by simp [execOp, h5, go_sem]) (Below.refl _ _) ⟨rfl, fun h => by cases h⟩
    · have h6 : a.tmps[(6 : Nat)]?.getD undef = .pointer (some ⟨g, 0, none⟩) := hd 4 (by simp) (by kernel_rfl)
      exact grow_value (v := .pointer (some ⟨g, 1, none⟩)) (by simp [execOp, h6, go_sem]) (Below.refl _ _) ⟨rfl, fun h => by cases h⟩
    · have h7 : a.tmps[(7 : Nat)]?.getD undef = .pointer (some ⟨g, 1, none⟩) := hd 5 (by simp) (by kernel_rfl)
      exact grow_value (v := .pointer (some ⟨g, 5, none⟩)) (by simp [execOp, h7, go_sem]) (Below.refl _ _) ⟨rfl, fun h => by cases h⟩
    · have h8 : a.tmps[(8 : Nat)]?.getD undef = .pointer (some ⟨g, 5, none⟩) := hd 6 (by simp) (by kernel_rfl)
      have hc := cell_l ((hb.block _ (lt_of_block hg)).trans hg) 5 (rfl)
      exact grow_value (v := .int .i64 imm) (by simp [execOp, h8, hc, go_sem]) (Below.refl _ _) ⟨rfl, fun h => by cases h⟩
    · have h4 : a.tmps[(4 : Nat)]?.getD undef = .int .i64 (r b) := hd 2 (by simp) (by kernel_rfl)
      have h9 : a.tmps[(9 : Nat)]?.getD undef = .int .i64 imm := hd 7 (by simp) (by kernel_rfl)
      have hwr := HW.out
      exact grow_value (v := .int .i64 (r b + imm)) (by simp [execOp, h4, h9, go_sem, hwr]) (Below.refl _ _) ⟨rfl, fun h => by cases h⟩
    · exact grow_tmp _ rfl ⟨hf0, fun h => by cases h⟩
    · exact grow_tmp _ rfl ⟨hf0, fun h => by cases h⟩
    · have h12 : a.tmps[(12 : Nat)]?.getD undef = .pointer (some ⟨g, 0, none⟩) := hd 10 (by simp) (by kernel_rfl)
      exact grow_value (v := .pointer (some ⟨g, 0, none⟩)) (by simp [execOp, h12, go_sem]) (Below.refl _ _) ⟨rfl, fun h => by cases h⟩
    · have h13 : a.tmps[(13 : Nat)]?.getD undef = .pointer (some ⟨g, 0, none⟩) := hd 11 (by simp) (by kernel_rfl)
      exact grow_value (v := .pointer (some ⟨g, 1, none⟩)) (by simp [execOp, h13, go_sem]) (Below.refl _ _) ⟨rfl, fun h => by cases h⟩
    · have h14 : a.tmps[(14 : Nat)]?.getD undef = .pointer (some ⟨g, 1, none⟩) := hd 12 (by simp) (by kernel_rfl)
      exact grow_value (v := .pointer (some ⟨g, 2, none⟩)) (by simp [execOp, h14, go_sem]) (Below.refl _ _) ⟨rfl, fun h => by cases h⟩
    · have h15 : a.tmps[(15 : Nat)]?.getD undef = .pointer (some ⟨g, 2, none⟩) := hd 13 (by simp) (by kernel_rfl)
      have hc := cell_l ((hb.block _ (lt_of_block hg)).trans hg) 2 (rfl)
      exact grow_value (v := .int .i64 ra) (by simp [execOp, h15, hc, go_sem]) (Below.refl _ _) ⟨rfl, fun h => by cases h⟩
    · have h11 : a.tmps[(11 : Nat)]?.getD undef = .pointer (some ⟨g, 0, none⟩) := hd 9 (by simp) (by kernel_rfl)
      exact grow_value (v := .pointer (some ⟨g, 0, none⟩)) (by simp [execOp, h11, go_sem]) (Below.refl _ _) ⟨rfl, fun h => by cases h⟩
    · have h17 : a.tmps[(17 : Nat)]?.getD undef = .pointer (some ⟨g, 0, none⟩) := hd 15 (by simp) (by kernel_rfl)
      exact grow_value (v := .pointer (some ⟨g, 6, none⟩)) (by simp [execOp, h17, go_sem]) (Below.refl _ _) ⟨rfl, fun h => by cases h⟩
    · have h18 : a.tmps[(18 : Nat)]?.getD undef = .pointer (some ⟨g, 6, none⟩) := hd 16 (by simp) (by kernel_rfl)
      exact grow_value (v := .pointer (some ⟨g, 6, none⟩)) (by simp [execOp, h18, go_sem]) (Below.refl _ _) ⟨rfl, fun h => by cases h⟩
    · have h19 : a.tmps[(19 : Nat)]?.getD undef = .pointer (some ⟨g, 6, none⟩) := hd 17 (by simp) (by kernel_rfl)
      have h16 : a.tmps[(16 : Nat)]?.getD undef = .int .i64 ra := hd 14 (by simp) (by kernel_rfl)
      exact grow_value (v := .pointer (some ⟨g, 6 + ra, none⟩)) (by simp [execOp, h19, h16, go_sem, a0, a1]) (Below.refl _ _) ⟨rfl, fun h => by cases h⟩
    · have h20 : a.tmps[(20 : Nat)]?.getD undef = .pointer (some ⟨g, 6 + ra, none⟩) := hd 18 (by simp) (by kernel_rfl)
      have hc := cell_l ((hb.block _ (lt_of_block hg)).trans hg) (6 + ra) (runL_reg _ _ _ _ _ _ _ _ _ _ _ _ _ ra ha)
      exact grow_value (v := .int .i64 (r ra)) (by simp [execOp, h20, hc, go_sem]) (Below.refl _ _) ⟨rfl, fun h => by cases h⟩
  · intro fv w2 hb2 hs hn hne
    have g2 : fv 2 = .pointer (some ⟨g, 0, none⟩) := hs 0 (by simp)
    have g3 : fv 3 = .pointer (some ⟨g, 0, none⟩) := hs 1 (by simp)
    have g4 : fv 4 = .int .i64 (r b) := hs 2 (by simp)
    have g5 : fv 5 = .pointer (some ⟨g, 0, none⟩) := hs 3 (by simp)
    have g6 : fv 6 = .pointer (some ⟨g, 0, none⟩) := hs 4 (by simp)
    have g7 : fv 7 = .pointer (some ⟨g, 1, none⟩) := hs 5 (by simp)
    have g8 : fv 8 = .pointer (some ⟨g, 5, none⟩) := hs 6 (by simp)
    have g9 : fv 9 = .int .i64 imm := hs 7 (by simp)
    have g10 : fv 10 = .int .i64 (r b + imm) := hs 8 (by simp)
    have g11 : fv 11 = .pointer (some ⟨g, 0, none⟩) := hs 9 (by simp)
    have g12 : fv 12 = .pointer (some ⟨g, 0, none⟩) := hs 10 (by simp)
    have g13 : fv 13 = .pointer (some ⟨g, 0, none⟩) := hs 11 (by simp)
    have g14 : fv 14 = .pointer (some ⟨g, 1, none⟩) := hs 12 (by simp)
    have g15 : fv 15 = .pointer (some ⟨g, 2, none⟩) := hs 13 (by simp)
    have g16 : fv 16 = .int .i64 ra := hs 14 (by simp)
    have g17 : fv 17 = .pointer (some ⟨g, 0, none⟩) := hs 15 (by simp)
    have g18 : fv 18 = .pointer (some ⟨g, 6, none⟩) := hs 16 (by simp)
    have g19 : fv 19 = .pointer (some ⟨g, 6, none⟩) := hs 17 (by simp)
    have g20 : fv 20 = .pointer (some ⟨g, 6 + ra, none⟩) := hs 18 (by simp)
    have g21 : fv 21 = .int .i64 (r ra) := hs 19 (by simp)
    rw [show (List.range (List.length _)).map (dstOf _) = [2, 3, 4, 5, 6, 7, 8, 9, 10, 11, 12, 13, 14, 15, 16, 17, 18, 19, 20, 21] from by kernel_rfl]
    simp only [actOf, List.foldl, Act.put, List.drop, List.length, g2, g3, g4, g5, g6, g7, g8, g9, g10, g11, g12, g13, g14, g15, g16, g17, g18, g19, g20, g21, List.setIfInBounds_toArray, List.set_cons_zero, List.set_cons_succ]
    clear hs hn hne g2 g3 g4 g5 g6 g7 g8 g9 g10 g11 g12 g13 g14 g15 g16 g17 g18 g19 g20 g21
    have zg := (hb2.block _ (lt_of_block hg)).trans hg
    have zsp := HS.out.2.1.below hb2
    have HZ := Lib.hid (And.intro hb2 (And.intro zg zsp))
    clear hb2 zg zsp
    go_wp2_with (go_at_call 247; refine (mstore_any g s gp cap ps op ra b c imm (r b + imm) (r ra) r pc r' pc' k n _ HZ.out.2.1 HS.out.1 HZ.out.2.2 j hk HS.out.2.2.1 HS.out.2.2.2.1 HS.out.2.2.2.2).mono ?_; rintro e w3 ⟨rfl, ho3, hg3, hsp3⟩; have H3 := Lib.hid (And.intro ho3 (And.intro hg3 hsp3)); clear ho3 hg3 hsp3)
    go_end0
    exact ⟨rfl, (Only.of_below HZ.out.1).trans H3.out.1, H3.out.2.1, H3.out.2.2⟩

set_option maxRecDepth 100000 in
set_option maxHeartbeats 1000000 in
theorem opsafe_any (g s : Nat) (op a b c imm : Int) (r : Nat → Int) (pc : Int) (r' : Nat → Int) (pc' k n : Int) (w : World) (hg : w.heap[g]? = some (.cells (runL s op a b c imm r pc r' pc' k n false).toArray 301 (0, 0))) :
    Calls Tryz.prog 226 #[.pointer (some ⟨g, 0, none⟩)] w fun e w' => e = .returned (.tuple #[]) ∧ Only (· = g) w w' ∧ w'.heap[g]? = some (.cells (runL s op a b c imm r pc r' pc' 1 n false).toArray 301 (0, 0)) := by
  have HG := Lib.hid hg
  have c40 := cell_l hg 40 rfl
  have f40 := free_in hg 40
  clear hg
  go_enter Tryz.func226, Tryz.ntmps226
  go_wp2
  go_end0
  exact ⟨rfl, (Only.refl (· = g) w).setCell _ _ (.inl rfl), block_set HG.out 40 (.int .i64 1)⟩

set_option maxRecDepth 100000 in
set_option maxHeartbeats 1000000 in
theorem opsys_any (g s : Nat) (op a b c imm : Int) (r : Nat → Int) (pc : Int) (r' : Nat → Int) (pc' k n : Int) (w : World) (hg : w.heap[g]? = some (.cells (runL s op a b c imm r pc r' pc' k n false).toArray 301 (0, 0))) :
    Calls Tryz.prog 264 #[.pointer (some ⟨g, 0, none⟩)] w fun e w' => e = .returned (.tuple #[]) ∧ Only (· = g) w w' ∧ w'.heap[g]? = some (.cells (runL s op a b c imm r pc r' pc' 2 imm false).toArray 301 (0, 0)) := by
  have HG := Lib.hid hg
  have c5 := cell_l hg 5 rfl
  have c40 := cell_l hg 40 rfl
  have f40 := free_in hg 40
  have c41 := cell_l hg 41 rfl
  have f41 := free_in hg 41
  clear hg
  go_enter Tryz.func264, Tryz.ntmps264
  go_wp2
  go_end0
  exact ⟨rfl, ((Only.refl (· = g) w).setCell _ _ (.inl rfl)).setCell _ _ (.inl rfl), block_set (block_set HG.out 40 (.int .i64 2)) 41 (.int .i64 imm)⟩
end Go.Proofs.YtkbilipgidcgeaaGreatDoor

namespace Go.Proofs.YtkbilipgidcgeaaGreatDoor
open Go.RowKit
attribute [local go_sem] ext_cell ext_frozen

/-- An instruction stands at an address of the memory. -/
structure FetchAt (ps : List Part) (pc op a b c imm : Int) : Prop where
  at_ : ∃ j, ∃ hk : LastAt ps pc j, pc - (ps[j]'hk.lt).at_ + 8 ≤ (ps[j]'hk.lt).size ∧ (ps[j]'hk.lt).kind = 0 ∧
    ∀ w, Forms w → Calls Tryz.prog 92 #[.string ⟨(readL (ps[j]'hk.lt) pc 8).toArray⟩, .int .i64 0] w fun e w' => Below w.heap.size w w' ∧ e = .returned (.tuple #[insV op a b c imm, .bool true])
  word : pc.tmod 8 = 0

set_option maxRecDepth 100000 in
set_option maxHeartbeats 2000000 in
theorem fetch_ok (s gp cap : Nat) (ps : List Part) (pc op a b c imm : Int) (w : World) (hA : AreasOk ps) (hsp : SpaceAt w s (.slice (some ⟨gp, 0, none⟩) ps.length cap) ps) (hf : Forms w) (h : FetchAt ps pc op a b c imm) :
    Calls Tryz.prog 173 #[.pointer (some ⟨s, 0, none⟩), .int .i64 pc] w fun e w' => Below w.heap.size w w' ∧ e = .returned (.tuple #[insV op a b c imm, .int .i64 0]) := by
  obtain ⟨⟨j, hk, hin, hkind, hdec⟩, hm⟩ := h
  have hls := lt_of_block hsp.head
  have e1 := hA.each _ (List.getElem_mem hk.lt)
  have e2 := hk.le
  have hpc0 : 0 ≤ pc := by omega
  have hpc1 : pc ≤ 1099511627776 := by omega
  have hm2 : pc % 8 = 0 := by rw [← Int.tmod_eq_emod_of_nonneg hpc0]; exact hm
  have hm3 : (pc.tmod 8 != 0) = false := by rw [hm]; rfl
  have hm4 : (pc % 8 != 0) = false := by rw [hm2]; rfl
  have HS := Lib.hid (And.intro hA (And.intro hsp (And.intro hf (And.intro hin (And.intro hkind hdec)))))
  clear hA hsp hf hin hkind hdec hm hm2 e1 e2
  unfold insV at *
  go_enter Tryz.func173, Tryz.ntmps173
  go_wp2_with fail
  go_at_call 224
  have vB : Below w.heap.size w (w.alloc (.cells #[.int .i64 0, .int .i64 0, .int .i64 0, .int .i64 0, .int .i64 0] 67)) := (Below.refl _ _).alloc (Nat.le_refl _) _
  refine (area_some s gp cap ps pc _ HS.out.1 (HS.out.2.1.below vB) j hk _ rfl (by have := HS.out.2.2.2.1; omega)).mono ?_
  rintro e w1 ⟨hb1, rfl⟩
  have k4 := new_block hb1
  have wB := below_call vB hb1
  have HK := Lib.hid (And.intro wB k4)
  clear vB wB k4 hb1
  unfold areaV
  go_wp2_with ((with_reducible refine at_store_law ?_); refine wpList_store_row rfl _ _ _ rfl _ _ rfl rfl _ _ (by (repeat (first | assumption | exact heap_alloc_new _ _ | refine block_old ?_ | refine block_drew ?_ | apply setRow_heap | (refine (setRow_other _ _ _ _ ?_).trans ?_; omega)))) (by kernel_rfl) (by rfl) (by simp [Value.oneCell']) ?_; (try simp only [World.setRow_alloc_new]))
  go_at_call 11
  have uB : Below w1.heap.size w1 (w1.alloc (.cells #[.int .i64 (ps[j]'hk.lt).at_, .int .i64 (ps[j]'hk.lt).size, .int .i64 (ps[j]'hk.lt).kind, .int .i64 (ps[j]'hk.lt).owner, .int .i64 (ps[j]'hk.lt).mod] 105)) := (Below.refl _ _).alloc (Nat.le_refl _) _
  refine (read_at s _ ps pc 8 _ HS.out.1 ((HS.out.2.1.below HK.out.1).below uB) j hk HS.out.2.2.2.1 (by omega)).mono ?_
  rintro e w2 ⟨hb2, rfl⟩
  have k6 := new_block hb2
  have l4 := lt_of_block HK.out.2
  have l12 := size_call hb2
  have k4 := (hb2.block _ (by simp; omega)).trans (block_old (o' := .cells #[.int .i64 (ps[j]'hk.lt).at_, .int .i64 (ps[j]'hk.lt).size, .int .i64 (ps[j]'hk.lt).kind, .int .i64 (ps[j]'hk.lt).owner, .int .i64 (ps[j]'hk.lt).mod] 105) HK.out.2)
  have c2 : w2.cell? ⟨w1.heap.size, 2, none⟩ = some (.int .i64 0) := by
    have := cell_in k6 2 rfl
    rw [this, HS.out.2.2.2.2.1]
    rfl
  have wB := HK.out.1.trans ((below_call uB hb2).mono HK.out.1.size)
  have HK2 := Lib.hid (And.intro wB k4)
  clear uB hb2 k6 k4 wB
  go_wp2_with fail
  go_at_call 92
  refine (HS.out.2.2.2.2.2 _ (HS.out.2.2.1.below HK2.out.1)).mono ?_
  rintro e w3 ⟨hb3, rfl⟩
  have k4 := (hb3.block _ (lt_of_block HK2.out.2)).trans HK2.out.2
  have l3 := lt_of_block k4
  have f4 := free_in k4 0
  have wB := HK2.out.1.trans (hb3.mono HK2.out.1.size)
  have HK3 := Lib.hid (And.intro wB k4)
  have HB3 := Lib.hid hb3
  clear k4 wB hb3 c2
  have k4 := HK3.out.2
  go_wp2_with ((with_reducible refine at_store_law ?_); refine wpList_store_row rfl _ _ _ rfl _ _ rfl rfl _ _ (by (repeat (first | assumption | exact heap_alloc_new _ _ | refine block_old ?_ | refine block_drew ?_ | apply setRow_heap | (refine (setRow_other _ _ _ _ ?_).trans ?_; omega)))) (by kernel_rfl) (by rfl) (by simp [Value.oneCell']) ?_; (try simp only [World.setRow_alloc_new]))
  obtain ⟨wB, k4⟩ := HK3.out
  have hcell : ((w3.alloc (.cells #[.int .i64 op, .int .i64 a, .int .i64 b, .int .i64 c, .int .i64 imm] 67)).setRow w.heap.size #[.int .i64 op, .int .i64 a, .int .i64 b, .int .i64 c, .int .i64 imm]).heap[w.heap.size]? = some (.cells #[.int .i64 op, .int .i64 a, .int .i64 b, .int .i64 c, .int .i64 imm] 67 (0, 0)) := setRow_heap _ _ _ _ _ _ (block_old k4)
  refine name_world fun Z hZ => ?_

  rw [hZ] at hcell
  refine bodyPost_ret (results_cell_tmp (t2 := 5) rfl _ _ w.heap.size _ _ _ _ rfl hcell Tryz.underlying67 rfl (by kernel_rfl)) rfl ?_
  rw [← hZ]
  exact ⟨((Only.of_below_le (wB.trans ((Below.refl _ _).alloc wB.size _)) (fun k _ h => h) : Only (fun b => w.heap.size ≤ b) w _).setRow _ _ (.inl (Nat.le_refl _))).below (Nat.le_refl _) (fun k h => h), rfl⟩
end Go.Proofs.YtkbilipgidcgeaaGreatDoor

namespace Go.Proofs.YtkbilipgidcgeaaGreatDoor
open Go.RowKit
attribute [local go_sem] ext_cell ext_frozen

/-- The table. -/
def opsArr : Array Value := #[.nilFunc, .func (.func 225) #[] #[], .func (.func 226) #[] #[], .func (.func 227) #[] #[], .func (.func 229) #[] #[], .func (.func 230) #[] #[], .func (.func 232) #[] #[], .func (.func 234) #[] #[], .func (.func 235) #[] #[], .func (.func 236) #[] #[], .func (.func 237) #[] #[], .func (.func 238) #[] #[], .func (.func 240) #[] #[], .func (.func 241) #[] #[], .func (.func 242) #[] #[], .func (.func 243) #[] #[], .func (.func 245) #[] #[], .func (.func 246) #[] #[], .func (.func 248) #[] #[], .func (.func 249) #[] #[], .func (.func 251) #[] #[], .func (.func 252) #[] #[], .func (.func 253) #[] #[], .func (.func 255) #[] #[], .func (.func 256) #[] #[], .func (.func 258) #[] #[], .func (.func 259) #[] #[], .func (.func 261) #[] #[], .func (.func 262) #[] #[], .func (.func 263) #[] #[], .func (.func 264) #[] #[]]

set_option maxRecDepth 100000 in
set_option maxHeartbeats 2000000 in
theorem mops_any (w : World) : Calls Tryz.prog 174 #[] w fun e w' => Below w.heap.size w w' ∧ e = .returned (.agg opsArr) := by
  unfold opsArr
  go_enter Tryz.func174, Tryz.ntmps174
  go_wp2_with ((with_reducible refine at_store_law ?_); refine wpList_store_row rfl _ _ _ rfl _ _ rfl rfl _ _ (by (repeat (first | assumption | exact heap_alloc_new _ _ | refine block_old ?_ | refine block_drew ?_ | apply setRow_heap | (refine (setRow_other _ _ _ _ ?_).trans ?_; omega)))) (by kernel_rfl) (by rfl) (by simp [Value.oneCell']) ?_; (try simp only [World.setRow_alloc_new]))
  refine bodyPost_ret (results_cell_row rfl _ _ w.heap.size _ _ _ _ rfl (heap_alloc_new _ _) Tryz.underlying303 rfl (by kernel_rfl)) rfl ?_
  exact ⟨(Below.refl _ _).alloc (Nat.le_refl _) _, rfl⟩
end Go.Proofs.YtkbilipgidcgeaaGreatDoor
