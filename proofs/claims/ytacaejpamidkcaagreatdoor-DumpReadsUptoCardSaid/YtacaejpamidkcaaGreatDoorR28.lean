/- machine: an instruction in execution. machine: what executes a store, a safe point, a system call. space: Load of a word. machine: what executes a load, a sum, a return, a jump. -/
import Derived.StillTailTactics
import Derived.Test.YtacaejpamidkcaaGreatDoorR24
set_option linter.unusedVariables false
set_option linter.unusedSimpArgs false
set_option maxRecDepth 100000
set_option maxHeartbeats 2000000
namespace Go.Proofs.YtacaejpamidkcaaGreatDoor
section
open Go.RowKit
attribute [local go_sem] ak_ af_
def cpuL (r : Nat → Int) (pc : Int) : List Value := [.int .i64 (r 0), .int .i64 (r 1), .int .i64 (r 2), .int .i64 (r 3), .int .i64 (r 4), .int .i64 (r 5), .int .i64 (r 6), .int .i64 (r 7), .int .i64 (r 8), .int .i64 (r 9), .int .i64 (r 10), .int .i64 (r 11), .int .i64 (r 12), .int .i64 (r 13), .int .i64 (r 14), .int .i64 (r 15), .int .i64 pc]
def runL (s : Nat) (op a b c imm : Int) (r : Nat → Int) (pc : Int) (r' : Nat → Int) (pc' k n : Int) (bad : Bool) : List Value :=
 .pointer (some ⟨s, 0, none⟩) :: .int .i64 op :: .int .i64 a :: .int .i64 b :: .int .i64 c :: .int .i64 imm :: (cpuL r pc ++ (cpuL r' pc' ++ [.int .i64 k, .int .i64 n, .bool bad]))
def upd (r : Nat → Int) (a : Nat) (v : Int) : Nat → Int := fun i => if i = a then v else r i
theorem rz_ (g s gp cap : Nat) (ps : List Part) (op a b c imm at_ v : Int) (r : Nat → Int) (pc : Int) (r' : Nat → Int) (pc' k n : Int) (w : World) (hg : w.heap[g]? = some (.cells (runL s op a b c imm r pc r' pc' k n false).toArray 319 (0, 0)))
 (hA : AreasOk ps) (hsp : SpaceAt w s (.slice (some ⟨gp, 0, none⟩) ps.length cap) ps) (j : Nat) (hk : LastAt ps at_ j) (hin : at_ - (ps[j]'hk.lt).at_ + 8 ≤ (ps[j]'hk.lt).size) (hm : at_.tmod 8 = 0) (hkind : (ps[j]'hk.lt).kind ≠ 0) :
 Calls Tryz.prog 270 #[.pointer (some ⟨g, 0, none⟩), .int .i64 at_, .int .i64 8, .int .i64 v] w fun e w' => e = .returned (.tuple #[]) ∧ Only (fun x => x = g ∨ x = (ps[j]'hk.lt).blk) w w' ∧
  w'.heap[g]? = some (.cells (runL s op a b c imm r pc r' pc' k n false).toArray 319 (0, 0)) ∧ SpaceAt w' s (.slice (some ⟨gp, 0, none⟩) ps.length cap) (ps.set j ((ps[j]'hk.lt).put at_ (ct_ v))) := by
 have HG := h1_ hg
 have HS := h5_ hA hsp hin hm hkind
 have c0 := ab_ hg 0 rfl
 have c42 := ab_ hg 42 rfl
 clear hg hA hsp hin hm hkind
 go_enter Tryz.func270, Tryz.ntmps270
 go_wp2_with fail
 go_at_call 169
 refine (kw_ s gp cap ps at_ v _ HS.out.1 HS.out.2.1 j hk _ rfl HS.out.2.2.1 HS.out.2.2.2.1 HS.out.2.2.2.2).mono ?_
 rintro e w1 ⟨rfl, ho1, hsp1⟩
 have hne : g ≠ (ps[j]'hk.lt).blk := by
  intro e
  exact HS.out.2.1.not_cells HG.out (by decide) (by decide) (by decide) (.inr (.inr ⟨_, List.getElem_mem hk.lt, e.symm⟩))
 have kg := ho1.kept HG.out hne
 have d42 := ab_ kg 42 rfl
 have f42 := ag_ kg 42
 have H1 := h3_ ho1 hsp1 kg
 clear ho1 hsp1 kg c0 c42
 go_wp2
 go_end0
 obtain ⟨ho1, hsp1, kg⟩ := H1.out
 have h := aj_ kg 42 (.bool false)
 have h2 : (runL s op a b c imm r pc r' pc' k n false).set 42 (.bool false) = runL s op a b c imm r pc r' pc' k n false := rfl
 rw [h2] at h
 refine ⟨rfl, (ho1.mono (fun _ _ h => .inr h)).setCell _ _ (.inl (.inl rfl)), h, hsp1.kept ((Only.refl (· = g) w1).setCell ⟨g, 42, none⟩ _ (.inl rfl)) ?_⟩
 rintro x hx rfl
 exact hsp1.not_cells kg (by decide) (by decide) (by decide) hx
end
section
open Go.RowKit
attribute [local go_sem] ak_ af_
end
section
open Go.RowKit
attribute [local go_sem] ak_ af_
end
section
open Go.RowKit
attribute [local go_sem] ak_ af_
theorem r0_ {w w' : World} {g : Nat} {o : Obj} (h : w.heap[g]? = some o) (ho : Only (· = g) w w') (h' : w'.heap[g]? = some o) : Below w.heap.size w w' :=
 ⟨ho.os, ho.tape, ho.output, ho.size, fun k hk => by
  by_cases e : k = g
  · subst e; rw [h, h']
  · exact ho.block k hk e⟩
theorem uc_ (g s : Nat) (op a b c imm : Int) (r : Nat → Int) (pc : Int) (r' : Nat → Int) (pc' k n : Int) (w : World) (hpc : IntKind.i64.wrap (pc + imm) = pc + imm) (hg : w.heap[g]? = some (.cells (runL s op a b c imm r pc r' pc' k n false).toArray 319 (0, 0))) :
 Calls Tryz.prog 273 #[.pointer (some ⟨g, 0, none⟩), .bool true] w fun e w' => e = .returned (.tuple #[]) ∧ Only (· = g) w w' ∧
  w'.heap[g]? = some (.cells (runL s op a b c imm r pc r' (pc + imm) k n false).toArray 319 (0, 0)) := by
 have HG := h1_ hg
 have HW := h1_ hpc
 clear hg hpc
 go_enter Tryz.func273, Tryz.ntmps273
 go_wp2
 refine wp_region_still_tail 15 (by kernel_rfl) (by kernel_rfl) ?_
 simp only [List.take_succ_cons, List.take_zero, List.drop_succ_cons, List.drop_zero]
 generalize hU : World.mk w.heap w.tape (w.drawn + 1) w.os w.output = U
 have hUV : U = w.drew := hU.symm
 have ug : U.heap[g]? = some (.cells (runL s op a b c imm r pc r' pc' k n false).toArray 319 (0, 0)) := by rw [hUV]; exact HG.out
 have uB : Below w.heap.size w U := by rw [hUV]; exact (Below.refl _ _).drew
 have u22 := ab_ ug 22 rfl
 have u5 := ab_ ug 5 rfl
 have u39 := ab_ ug 39 rfl
 have f39 := ag_ ug 39
 have HU := h2_ uB ug
 have hwr := HW.out
 clear hU hUV ug uB
 repeat still_step
 refine wpStill_nil ?_
 clear hwr
 go_wp2
 go_end0
 exact ⟨rfl, (Only.of_below HU.out.1).setCell _ _ (.inl rfl), aj_ HU.out.2 39 (.int .i64 (pc + imm))⟩
end
end Go.Proofs.YtacaejpamidkcaaGreatDoor
