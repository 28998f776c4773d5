/- space: Unmap of the last area, deferred. -/
import Derived.Defers
import Derived.Test.YtkbilipgidcgeaaGreatDoorW10
set_option linter.unusedVariables false
set_option linter.unusedSimpArgs false
namespace Go.Proofs.YtkbilipgidcgeaaGreatDoor
open Go.RowKit
attribute [local go_sem] ext_cell ext_frozen

set_option maxRecDepth 100000 in
set_option maxHeartbeats 2000000 in
theorem unmap_last_d (u : FrameMode) (s g cap n : Nat) (ps : List Part) (q : Part) (a : Int) (w : World) (hA : AreasOk (ps ++ [q])) (hn : ps.length = n) (ha : q.at_ = a) (hsp : SpaceAt w s (.slice (some ⟨g, 0, none⟩) (n + 1) cap) (ps ++ [q])) :
    CallsD Tryz.prog 69 #[.pointer (some ⟨s, 0, none⟩), .int .i64 a] u w fun e u' w' =>
      u' = u ∧ e = .returned (.int .i64 0) ∧ Only (fun b => b = s ∨ b = g) w w' ∧ SpaceAt w' s (.slice (some ⟨g, 0, none⟩) n cap) ps := by
  have hc := cell_of_one hsp.head
  have hls := lt_of_block hsp.head
  have hfew := hA.few
  simp at hfew
  have hk : LastAt (ps ++ [q]) a n := ⟨by simp; omega, by rw [← ha]; subst hn; simp, fun j hj hnj => by simp at hj; omega⟩
  have hat : ((ps ++ [q])[n]'hk.lt).at_ = a := by subst hn; simpa using ha
  have HS := Lib.hid (search_hit s _ _ a w hA hsp n hk hat)
  have hn4 : n < 4096 := by omega
  clear hfew
  have HR := Lib.hid (show ∀ w', Below w.heap.size w w' → w'.ownsRow 0 107 6 (.slice (some ⟨g, 0, none⟩) (n + 1) cap) (n + 1) (partsCells (ps ++ [q])) from fun w' hb => by
    have := (hsp.below hb).row
    rw [List.length_append, List.length_singleton, hn] at this
    exact this)
  have HH := Lib.hid (And.intro hsp hn)
  have hgs : g ≠ s := fun e => hsp.apart2 (by simp [Value.ownBlock, e])
  clear hA hn ha hsp hk hat
  go_enter_d Tryz.func69, Tryz.ntmps69
  go_wp2_with (first
    | (go_at_call 75; refine HS.out.mono ?_; rintro e w1 ⟨hb1, rfl⟩; have hc1 := (hb1.cell (p := ⟨s, 0, none⟩) hls).trans hc; have hsz1 := hb1.size; have HB1 := Lib.hid hb1; clear hb1)
    | (go_at_call 164; refine (delete_last g cap n _ w1 (HR.out w1 HB1.out) hn4).mono ?_; rintro e w2 ⟨rfl, hown2, ho2⟩; have hs2 := ho2.kept (HH.out.1.below HB1.out).head (Ne.symm hgs); have hc2 := cell_of_one hs2; have hf2 := free_of_one hs2; have H2 := Lib.hid (And.intro hown2 (And.intro ho2 hs2)); clear hown2 ho2 hs2))
  go_ret
  obtain ⟨hown2, ho2, hs2⟩ := H2.out
  obtain ⟨hsp, hn⟩ := HH.out
  have hlen : (partsCells ps).length = n * 6 := by rw [partsCells_length, hn]
  have ho : Only (· = g) w w2 := (Only.of_below HB1.out).trans ho2
  refine ⟨rfl, (ho.mono fun _ _ h => .inr h).setCell _ _ (.inl (.inl rfl)), one_setCell hs2, ?_, ?_, ?_⟩
  · rw [hn]
    have : (partsCells (ps ++ [q])).take (n * 6) = partsCells ps := by
      rw [show partsCells (ps ++ [q]) = partsCells ps ++ partCells q by simp [partsCells], ← hlen, List.take_left']
      rfl
    rw [this] at hown2
    exact ownsRow_setCell_other hown2 (by simpa [Value.ownBlock] using hgs) _
  · have := hsp.bytes.1
    rw [List.map_append, List.nodup_append] at this
    exact this.1
  · intro p hp
    have hp' : p ∈ ps ++ [q] := List.mem_append_left _ hp
    obtain ⟨h1, h2, cur, h3, h4⟩ := hsp.bytes.2 p hp'
    obtain ⟨a1, a2⟩ := hsp.apart hp'
    exact ⟨h1, h2, cur, block_other (ho.kept h3 (fun e => a2 (by simp [Value.ownBlock, e]))) _ _ (Ne.symm a1), h4⟩
end Go.Proofs.YtkbilipgidcgeaaGreatDoor
