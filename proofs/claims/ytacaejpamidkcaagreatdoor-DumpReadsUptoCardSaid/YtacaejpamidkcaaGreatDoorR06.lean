/- space: Map behind all others. -/
import Derived.Test.YtacaejpamidkcaaGreatDoorR05
set_option linter.unusedVariables false
set_option linter.unusedSimpArgs false
set_option maxRecDepth 100000
set_option maxHeartbeats 8000000
namespace Go.Proofs.YtacaejpamidkcaaGreatDoor
section
open Go.RowKit
attribute [local go_sem] ak_ af_
theorem map_nil (s : Nat)  (at_ size kind owner mod : Int) (w : World) (hA : AreasOk ([] : List Part)) (hsp : SpaceAt w s (.slice none 0 0) ([] : List Part))
 (h1 : 256 ≤ at_) (h2 : at_ < 1099511627776) (h3 : upI at_ 256 = at_) (h4 : 1 ≤ size) (h5 : size ≤ 1048576) (h6 : at_ + size ≤ 1099511627776) (h7 : 0 ≤ kind) (h8 : kind < 5)
 (hfew : (([] : List Part)).length < 4096) (hend : ∀ p ∈ ([] : List Part), p.at_ + p.size ≤ at_) :
 Calls Tryz.prog 69 #[.pointer (some ⟨s, 0, none⟩), .agg #[.int .i64 at_, .int .i64 size, .int .i64 kind, .int .i64 owner, .int .i64 mod]] w fun e w' =>
  e = .returned (.int .i64 0) ∧ Only (fun b => b = s ∨ Value.ownBlock (.slice none 0 0) = some b) w w' ∧ ∃ pv' blk, SpaceAt w' s pv' (([] : List Part) ++ [bt_ at_ size kind owner mod blk]) ∧ w.heap.size ≤ blk ∧
   (pv'.ownBlock = Value.ownBlock (.slice none 0 0) ∨ ∃ g, pv'.ownBlock = some g ∧ w.heap.size ≤ g) := by
 have hc := cell_of_one hsp.head
 have hls := lt_of_block hsp.head
 have hbl0 : ∀ p ∈ ([] : List Part), p.blk < w.heap.size := fun p hp => by obtain ⟨_, _, cur, h, _⟩ := hsp.bytes.2 p hp; exact lt_of_block h
 have hend' : ∀ p ∈ ([] : List Part), p.at_ < at_ := fun p hp => by have := hend p hp; have := (hA.each p hp).2.2.1; omega
 have HA := h4_ hA hsp hend hend'
 have HBL := h1_ hbl0
 clear hA hsp hend hend' hbl0
 have hfew0 : ([] : List Part).length < 4096 := hfew
 go_enter Tryz.func69, Tryz.ntmps69
 go_wp2_with (first
  | (go_at_call 159; refine (p5_ _ _ _ _ _ _ h1 h2 h3 h4 h5 h6 h7 h8).mono ?_; rintro e w1 ⟨rfl, hb1⟩; have hsz1 := eo_ hb1; have hn1 := b9_ hb1; have hr := hd_ hb1; (have c0 := ab_ hn1 0 rfl; have f0 := ag_ hn1 0; have c1 := ab_ hn1 1 rfl; have f1 := ag_ hn1 1; have c2 := ab_ hn1 2 rfl; have f2 := ag_ hn1 2; have c3 := ab_ hn1 3 rfl; have f3 := ag_ hn1 3; have c4 := ab_ hn1 4 rfl; have f4 := ag_ hn1 4))
  | (go_at_call 160; refine (ku_ s _ ([] : List Part) _ _ HA.out.1 (HA.out.2.1.below (aw_ ((Below.refl _ _).alloc (Nat.le_refl _) _) hb1)) HA.out.2.2.2).mono ?_; rintro e w2 ⟨hb2, rfl⟩; have hsz2 := hb2.size; have hr2 := hd_ hb2))
 have hb := aw_ (aw_ ((Below.refl _ _).alloc (Nat.le_refl _) _) hb1) hb2
 have hn2 := (hb2.block _ hsz1).trans hn1
 have hc2 : w2.cell? ⟨s, 0, none⟩ = some (.slice none 0 0) := (hb.cell (p := ⟨s, 0, none⟩) hls).trans hc
 have hls2 : s < w2.heap.size := by omega
 have hws2 : w.heap.size < w2.heap.size := by omega
 have HB := h1_ hb
 have HN := h1_ hn2
 clear hb1 hb2 hr hr2 hn1 c0 c1 c2 c3 c4 f0 f1 f2 f3 f4
 (have c0 := ab_ hn2 0 rfl; have f0 := ag_ hn2 0; have c1 := ab_ hn2 1 rfl; have f1 := ag_ hn2 1; have c2 := ab_ hn2 2 rfl; have f2 := ag_ hn2 2; have c3 := ab_ hn2 3 rfl; have f3 := ag_ hn2 3; have c4 := ab_ hn2 4 rfl; have f4 := ag_ hn2 4)
 clear hn2 hb
 refine co_ (by kernel_rfl) (by kernel_rfl) ?_
 repeat (go_big_quiet_step ((first | fail)))
 refine bn_ ?_
 intro w3 hb3
 have hr3 := hd_ hb3
 have hs3 := hb3.size
 have HB3 := h2_ (HB.out.trans (hb3.mono HB.out.size)) (HA.out.2.1.below (HB.out.trans (hb3.mono HB.out.size)))
 have hls3 : s < w3.heap.size := by omega
 have hws3 : w.heap.size < w3.heap.size := by omega
 have hc3 : w3.cell? ⟨s, 0, none⟩ = some (.slice none 0 0) := (hr3.1 s 0 hls2).trans hc2
 have hn3 := (hb3.block _ hws2).trans HN.out
 clear hb3 hc2 c0 c1 c2 c3 c4 f0 f1 f2 f3 f4 hr3 
 (have c0 := ab_ hn3 0 rfl; have f0 := ag_ hn3 0; have c1 := ab_ hn3 1 rfl; have f1 := ag_ hn3 1; have c2 := ab_ hn3 2 rfl; have f2 := ag_ hn3 2; have c3 := ab_ hn3 3 rfl; have f3 := ag_ hn3 3; have c4 := ab_ hn3 4 rfl; have f4 := ag_ hn3 4)
 have HN3 := h1_ hn3
 clear hn3
 obtain ⟨M, hM⟩ : ∃ M, M = madeCells (Value.cells (.int .u8 0)) (size.toNat * 1) := ⟨_, rfl⟩
 have hmk : ∀ w : World, (Instr.makeSlice 75 (.int .i64 size) (.int .i64 size)).run Tryz.prog w = .ok (.slice (some ⟨w.heap.size, 0, none⟩) size.toNat size.toNat) (w.alloc (.cells M 5)) := fun w => by
  rw [hM]
  obtain ⟨i0, hi, hz0, hz1, hz2⟩ := info_parts fj_
  have := run_make (P := Tryz.prog) w 75 5 i0 (.int .u8 0) Tryz.underlying75 hi hz0 .i64 .i64 size size (by omega) (Int.le_refl _) (by rw [hz2]; omega) (by omega)
  rw [hz1] at this
  exact this
 have HM := h1_ hM
 clear hM
 have HQ := h1_ (show ∀ o, ((w3.drew.alloc o).alloc (.cells #[.int .i64 at_, .int .i64 size, .int .i64 kind, .int .i64 owner, .int .i64 mod, .slice (some ⟨w3.heap.size, 0, none⟩) size.toNat size.toNat] 302)).heap[w3.heap.size + 1]? = some (.cells (bw_ (bt_ at_ size kind owner mod w3.heap.size)).toArray 302 (0, 0)) from fun o => heap_alloc2_new w3.drew o _)
 have HO := h1_ (show ∀ o o2, ((w3.drew.alloc o).alloc o2).ownsRow 0 302 6 (.slice none 0 0) (([] : List Part)).length (bb_ ([] : List Part)) from fun o o2 => World.ownsRow_nil _ _ _ _)
 have HG : ∀ b t, w3.heap[b]? = some (.cells t 159 (0, 0)) → ¬ (Value.ownBlock (.slice none 0 0) = some b) := fun b t hb he => by
  obtain ⟨cur, hcur⟩ := b5_ HB3.out.2.row b he
  rw [hb] at hcur
  simp at hcur
 have HG2 : ∀ b t, w3.heap[b]? = some (.cells t 173 (0, 0)) → ¬ (Value.ownBlock (.slice none 0 0) = some b) := fun b t hb he => by
  obtain ⟨cur, hcur⟩ := b5_ HB3.out.2.row b he
  rw [hb] at hcur
  simp at hcur
 have hg1 := HG _ _ HB3.out.2.head
 have hg2 := HG2 _ _ HN3.out
 have KS := h1_ (show ∀ o o2, (s < ((w3.drew.alloc o).alloc o2).heap.size ∧ ¬ Value.ownBlock (.slice none 0 0) = some s) ∧ (w.heap.size < ((w3.drew.alloc o).alloc o2).heap.size ∧ ¬ Value.ownBlock (.slice none 0 0) = some w.heap.size) from fun o o2 => ⟨⟨by simp; omega, hg1⟩, ⟨by simp; omega, hg2⟩⟩)
 have HKK := h1_ (show ∀ o o2 i, i < 5 → ((w3.drew.alloc o).alloc o2).cell? ⟨w.heap.size, i, none⟩ = w3.cell? ⟨w.heap.size, i, none⟩ ∧ ((w3.drew.alloc o).alloc o2).cell? ⟨s, 0, none⟩ = w3.cell? ⟨s, 0, none⟩ from fun o o2 i _ =>
  have hB := (((Below.refl w3.heap.size w3).drew.alloc (Nat.le_refl _) o).alloc (by simp) o2)
  ⟨hB.cell (p := ⟨w.heap.size, i, none⟩) hws3, hB.cell (p := ⟨s, 0, none⟩) hls3⟩)
 have KB := h1_ (show ∀ o o2, ((w3.drew.alloc o).alloc o2).heap[s]? = some (.cells #[.slice none 0 0] 159 (0, 0)) from fun o o2 => ae_ (ae_ (az_ HB3.out.2.head)))
 have HGG := h2_ HG HG2
 clear HG HG2 hg1 hg2
 go_wp2
 go_region_law (first | (go_simp; go_at_call 161; refine (kt_ (.slice none 0 0) ([] : List Part) (bt_ at_ size kind owner mod w3.heap.size) (w3.heap.size + 1) _ (by omega) (HQ.out _) (HO.out _ _)).mono ?_; rintro e w4 ⟨g4, cap4, rfl, hown4, hat4, hk4⟩; have d0 := (hk4.cell (KS.out _ _).1.1 (KS.out (.map #[] 0) (.map #[] 0)).1.2).trans ((HKK.out _ _ 0 (by omega)).2.trans hc3); have d1 := (hk4.cell (KS.out _ _).2.1 (KS.out (.map #[] 0) (.map #[] 0)).2.2).trans ((HKK.out _ _ 0 (by omega)).1.trans c0); have d2 := (hk4.cell (KS.out _ _).2.1 (KS.out (.map #[] 0) (.map #[] 0)).2.2).trans ((HKK.out _ _ 1 (by omega)).1.trans c1); have d3 := (hk4.cell (KS.out _ _).2.1 (KS.out (.map #[] 0) (.map #[] 0)).2.2).trans ((HKK.out _ _ 2 (by omega)).1.trans c2); have d4 := (hk4.cell (KS.out _ _).2.1 (KS.out (.map #[] 0) (.map #[] 0)).2.2).trans ((HKK.out _ _ 3 (by omega)).1.trans c3); have d5 := (hk4.cell (KS.out _ _).2.1 (KS.out (.map #[] 0) (.map #[] 0)).2.2).trans ((HKK.out _ _ 4 (by omega)).1.trans c4); have hsb4 := hk4.kept (KB.out _ _) (KS.out (.map #[] 0) (.map #[] 0)).1.2; have df := free_of_one hsb4; have HK4 := h4_ hown4 hat4 hk4 hsb4; clear hown4 hat4 hk4 hsb4))
 all_goals
  go_wp2
  go_ret
  obtain ⟨hown4, hat4, hk4, _⟩ := HK4.out
  obtain ⟨r1, r2⟩ := kv_ HB3.out.2 HB3.out.1 hls HBL.out h4 h5 HM.out hown4 hat4 hk4
  exact ⟨rfl, r1, r2⟩
end
end Go.Proofs.YtacaejpamidkcaaGreatDoor
