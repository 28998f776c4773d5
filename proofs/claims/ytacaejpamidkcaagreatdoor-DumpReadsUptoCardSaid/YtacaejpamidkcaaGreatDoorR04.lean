/- space: find. -/
import Derived.Test.YtacaejpamidkcaaGreatDoorR03
set_option linter.unusedVariables false
set_option linter.unusedSimpArgs false
set_option maxRecDepth 100000
set_option maxHeartbeats 1000000
namespace Go.Proofs.YtacaejpamidkcaaGreatDoor
section
open Go.RowKit
attribute [local go_sem] ak_ af_
def hasB (p : Part) (a n : Int) : Bool := decide (a - p.at_ < p.size) && decide (n ≤ p.size - (a - p.at_))
structure LastAt (ps : List Part) (a : Int) (k : Nat) : Prop where
 lt : k < ps.length
 le : (ps[k]).at_ ≤ a
 next : ∀ j (hj : j < ps.length), k < j → a < (ps[j]).at_
theorem LastAt.idx {ps : List Part} {a : Int} {k : Nat} (h : LastAt ps a k) (hs : lg_ ps) {i : Nat} (hi : IdxAt ps a i) :
 ((ps[k]'h.lt).at_ = a → i = k) ∧ ((ps[k]'h.lt).at_ ≠ a → i = k + 1) := by
 obtain ⟨hk, hk1, hk2⟩ := h
 obtain ⟨h1, h2, h3⟩ := hi
 rcases Nat.lt_trichotomy i k with h | h | h
 · have := h3 i (by omega) (Nat.le_refl _)
   have := hs i k (by omega) hk h
   omega
 · subst h
   have := h3 i hk (Nat.le_refl _)
   exact ⟨fun _ => rfl, fun h => by omega⟩
 · have hne : ¬ (k + 1 < i) := fun hlt => by
    have h4 := hk2 (k + 1) (by omega) (by omega)
    have := h2 (k + 1) (by omega) hlt
    omega
   have := h2 k hk (by omega)
   exact ⟨fun h => by omega, fun _ => by omega⟩
theorem kr_ (s : Nat) (pv : Value) (ps : List Part) (a : Int) (w : World) (hA : AreasOk ps) (hsp : SpaceAt w s pv ps) (k : Nat) (hk : LastAt ps a k) (he : (ps[k]'hk.lt).at_ = a) :
 Calls Tryz.prog 160 #[.pointer (some ⟨s, 0, none⟩), .int .i64 a] w fun e w' =>
  Below w.heap.size w w' ∧ e = .returned (.tuple #[.int .i64 k, .bool true]) :=
 (hv_ s pv ps a w hA hsp).mono fun e w' ⟨hb, i, hi, h⟩ => by
   obtain rfl := (hk.idx hA.sorted hi).1 he
   exact ⟨hb, by rw [h]; simp [hk.lt, he]⟩
theorem ja_ (s : Nat) (pv : Value) (ps : List Part) (a : Int) (w : World) (hA : AreasOk ps) (hsp : SpaceAt w s pv ps) (k : Nat) (hk : LastAt ps a k) (he : (ps[k]'hk.lt).at_ ≠ a) :
 Calls Tryz.prog 160 #[.pointer (some ⟨s, 0, none⟩), .int .i64 a] w fun e w' =>
  Below w.heap.size w w' ∧ e = .returned (.tuple #[.int .i64 ((k : Int) + 1), .bool false]) :=
 (hv_ s pv ps a w hA hsp).mono fun e w' ⟨hb, i, hi, h⟩ => by
   have hi' := (hk.idx hA.sorted hi).2 he
   refine ⟨hb, ?_⟩
   rw [h, hi']
   have : ¬ ∃ h : k + 1 < ps.length, (ps[k + 1]).at_ = a := fun ⟨h', e'⟩ => by have := hk.next (k + 1) h' (by omega); omega
   simp only [this, decide_false]
   simp
theorem he_ (s g cap : Nat) (ps : List Part) (a n : Int) (w : World) (hA : AreasOk ps) (hsp : SpaceAt w s (.slice (some ⟨g, 0, none⟩) ps.length cap) ps)
 (k : Nat) (hk : LastAt ps a k) (ha : a ≤ 9223372036854775807) :
 Calls Tryz.prog 178 #[.pointer (some ⟨s, 0, none⟩), .int .i64 a, .int .i64 n] w fun e w' =>
  Below w.heap.size w w' ∧ e = .returned (.tuple #[i9_ (ps[k]'hk.lt), .bool (hasB (ps[k]'hk.lt) a n)]) := by
 have hc := cell_of_one hsp.head
 have hls := lt_of_block hsp.head
 have hfew := hA.few
 have hkl := hk.lt
 have hk1 := hk.le
 obtain ⟨p, hp⟩ : ∃ p, p = ps[k] := ⟨_, rfl⟩
 have hP : en_ w g ps := fun j u hj => by have := hsp.row.cells (g := g) rfl j u hj; simpa [fs_] using this
 have hg0 : g < w.heap.size := (hsp.row.lt g rfl).2
 obtain ⟨d0, d1, d2, d3, d4, d5⟩ := hP.six k hkl
 rw [← hp] at d0 d1 d2 d3 d4 d5 hk1 ⊢
 unfold fi_ at d5
 have hpe := hA.each p (by rw [hp]; exact List.getElem_mem hkl)
 obtain ⟨e1, e2, e3, e4, e5⟩ := hpe
 have HA := h1_ hA
 have HP := h1_ hp
 have HK := h1_ hk
 have HS := h1_ hsp
 clear hA hp hk hsp hP e2
 unfold i9_ fi_
 by_cases heq : p.at_ = a
 · by_cases hin : a - p.at_ < p.size
   · have hh : hasB p a n = decide (n ≤ p.size - (a - p.at_)) := by simp [hasB, hin]
     rw [hh]
     have HE := h1_ heq
     clear hh heq
     go_enter Tryz.func178, Tryz.ntmps178
     go_wp2_with (go_at_call 160; refine (kr_ s _ ps _ _ HA.out (HS.out.below ((Below.refl _ _).alloc (Nat.le_refl _) _)) k HK.out (by rw [← HP.out]; exact HE.out)).mono ?_; rintro e w1 ⟨hb1, rfl⟩; have hr := hd_ hb1; have hsz1 := hb1.size; simp at hsz1; have hn1 := b9_ hb1; have HN1 := h1_ hn1; clear hn1)
     refine ac_ fun W hW => ?_
     have hn2 := ae_ (o' := .cells #[.int .i64 p.at_, .int .i64 p.size, .int .i64 p.kind, .int .i64 p.owner, .int .i64 p.mod, .slice (some ⟨p.blk, 0, none⟩) p.size.toNat p.cap] 302) HN1.out
     have hn3 := heap_alloc_new w1 (.cells #[.int .i64 p.at_, .int .i64 p.size, .int .i64 p.kind, .int .i64 p.owner, .int .i64 p.mod, .slice (some ⟨p.blk, 0, none⟩) p.size.toNat p.cap] 302)
     rw [hW] at hn2 hn3
     (have c0 := ab_ hn2 0 rfl; have f0 := ag_ hn2 0; have c1 := ab_ hn2 1 rfl; have f1 := ag_ hn2 1; have c2 := ab_ hn2 2 rfl; have f2 := ag_ hn2 2; have c3 := ab_ hn2 3 rfl; have f3 := ag_ hn2 3; have c4 := ab_ hn2 4 rfl; have f4 := ag_ hn2 4; have c5 := ab_ hn2 5 rfl; have f5 := ag_ hn2 5)
     (have c0 := ab_ hn3 0 rfl; have f0 := ag_ hn3 0; have c1 := ab_ hn3 1 rfl; have f1 := ag_ hn3 1; have c2 := ab_ hn3 2 rfl; have f2 := ag_ hn3 2; have c3 := ab_ hn3 3 rfl; have f3 := ag_ hn3 3; have c4 := ab_ hn3 4 rfl; have f4 := ag_ hn3 4; have c5 := ab_ hn3 5 rfl; have f5 := ag_ hn3 5)
     go_region
     go_wp2
     have hn4 := az_ (aj_ (aj_ (aj_ (aj_ (aj_ (aj_ hn2 0 (.int .i64 p.at_)) 1 (.int .i64 p.size)) 2 (.int .i64 p.kind)) 3 (.int .i64 p.owner)) 4 (.int .i64 p.mod)) 5 (.slice (some ⟨p.blk, 0, none⟩) p.size.toNat p.cap))
     have hb0 := aw_ ((Below.refl _ _).alloc (Nat.le_refl _) _) hb1
     have hb : Below w.heap.size w W := by rw [← hW]; go_grown
     have hb4 : Below w.heap.size w (((((((W.setCell ⟨w.heap.size, 0, none⟩ (.int .i64 p.at_)).setCell ⟨w.heap.size, 1, none⟩ (.int .i64 p.size)).setCell ⟨w.heap.size, 2, none⟩ (.int .i64 p.kind)).setCell ⟨w.heap.size, 3, none⟩ (.int .i64 p.owner)).setCell ⟨w.heap.size, 4, none⟩ (.int .i64 p.mod)).setCell ⟨w.heap.size, 5, none⟩ (.slice (some ⟨p.blk, 0, none⟩) p.size.toNat p.cap))).drew := by
      go_grown
     refine ac_ fun W4 hW4 => ?_
     rw [hW4] at hn4 hb4
     (have c0 := ab_ hn4 0 rfl; have f0 := ag_ hn4 0; have c1 := ab_ hn4 1 rfl; have f1 := ag_ hn4 1; have c2 := ab_ hn4 2 rfl; have f2 := ag_ hn4 2; have c3 := ab_ hn4 3 rfl; have f3 := ag_ hn4 3; have c4 := ab_ hn4 4 rfl; have f4 := ag_ hn4 4; have c5 := ab_ hn4 5 rfl; have f5 := ag_ hn4 5)
     refine bodyPost_ret (v := .tuple #[.agg #[.int .i64 p.at_, .int .i64 p.size, .int .i64 p.kind, .int .i64 p.owner, .int .i64 p.mod, .slice (some ⟨p.blk, 0, none⟩) p.size.toNat p.cap], .bool (decide (n ≤ p.size - (a - p.at_)))]) (by simp [results, Tryz.results178, go_sem, c0, c1, c2, c3, c4, c5]) rfl ⟨hb4, rfl⟩
   · have hh : hasB p a n = false := by simp [hasB, hin]
     have hin2 : decide (a - p.at_ < p.size) = false := by simp [hin]
     have hin3 : ¬ a - p.at_ < p.size := hin
     rw [hh]
     have HE := h1_ heq
     clear hh heq
     go_enter Tryz.func178, Tryz.ntmps178
     go_wp2_with (go_at_call 160; refine (kr_ s _ ps _ _ HA.out (HS.out.below ((Below.refl _ _).alloc (Nat.le_refl _) _)) k HK.out (by rw [← HP.out]; exact HE.out)).mono ?_; rintro e w1 ⟨hb1, rfl⟩; have hr := hd_ hb1; have hsz1 := hb1.size; simp at hsz1; have hn1 := b9_ hb1; have HN1 := h1_ hn1; clear hn1)
     refine ac_ fun W hW => ?_
     have hn2 := ae_ (o' := .cells #[.int .i64 p.at_, .int .i64 p.size, .int .i64 p.kind, .int .i64 p.owner, .int .i64 p.mod, .slice (some ⟨p.blk, 0, none⟩) p.size.toNat p.cap] 302) HN1.out
     have hn3 := heap_alloc_new w1 (.cells #[.int .i64 p.at_, .int .i64 p.size, .int .i64 p.kind, .int .i64 p.owner, .int .i64 p.mod, .slice (some ⟨p.blk, 0, none⟩) p.size.toNat p.cap] 302)
     rw [hW] at hn2 hn3
     (have c0 := ab_ hn2 0 rfl; have f0 := ag_ hn2 0; have c1 := ab_ hn2 1 rfl; have f1 := ag_ hn2 1; have c2 := ab_ hn2 2 rfl; have f2 := ag_ hn2 2; have c3 := ab_ hn2 3 rfl; have f3 := ag_ hn2 3; have c4 := ab_ hn2 4 rfl; have f4 := ag_ hn2 4; have c5 := ab_ hn2 5 rfl; have f5 := ag_ hn2 5)
     (have c0 := ab_ hn3 0 rfl; have f0 := ag_ hn3 0; have c1 := ab_ hn3 1 rfl; have f1 := ag_ hn3 1; have c2 := ab_ hn3 2 rfl; have f2 := ag_ hn3 2; have c3 := ab_ hn3 3 rfl; have f3 := ag_ hn3 3; have c4 := ab_ hn3 4 rfl; have f4 := ag_ hn3 4; have c5 := ab_ hn3 5 rfl; have f5 := ag_ hn3 5)
     go_region
     go_wp2
     have hn4 := az_ (aj_ (aj_ (aj_ (aj_ (aj_ (aj_ hn2 0 (.int .i64 p.at_)) 1 (.int .i64 p.size)) 2 (.int .i64 p.kind)) 3 (.int .i64 p.owner)) 4 (.int .i64 p.mod)) 5 (.slice (some ⟨p.blk, 0, none⟩) p.size.toNat p.cap))
     have hb0 := aw_ ((Below.refl _ _).alloc (Nat.le_refl _) _) hb1
     have hb : Below w.heap.size w W := by rw [← hW]; go_grown
     have hb4 : Below w.heap.size w (((((((W.setCell ⟨w.heap.size, 0, none⟩ (.int .i64 p.at_)).setCell ⟨w.heap.size, 1, none⟩ (.int .i64 p.size)).setCell ⟨w.heap.size, 2, none⟩ (.int .i64 p.kind)).setCell ⟨w.heap.size, 3, none⟩ (.int .i64 p.owner)).setCell ⟨w.heap.size, 4, none⟩ (.int .i64 p.mod)).setCell ⟨w.heap.size, 5, none⟩ (.slice (some ⟨p.blk, 0, none⟩) p.size.toNat p.cap))).drew := by
      go_grown
     refine ac_ fun W4 hW4 => ?_
     rw [hW4] at hn4 hb4
     (have c0 := ab_ hn4 0 rfl; have f0 := ag_ hn4 0; have c1 := ab_ hn4 1 rfl; have f1 := ag_ hn4 1; have c2 := ab_ hn4 2 rfl; have f2 := ag_ hn4 2; have c3 := ab_ hn4 3 rfl; have f3 := ag_ hn4 3; have c4 := ab_ hn4 4 rfl; have f4 := ag_ hn4 4; have c5 := ab_ hn4 5 rfl; have f5 := ag_ hn4 5)
     refine bodyPost_ret (v := .tuple #[.agg #[.int .i64 p.at_, .int .i64 p.size, .int .i64 p.kind, .int .i64 p.owner, .int .i64 p.mod, .slice (some ⟨p.blk, 0, none⟩) p.size.toNat p.cap], .bool (false)]) (by simp [results, Tryz.results178, go_sem, c0, c1, c2, c3, c4, c5]) rfl ⟨hb4, rfl⟩
 · by_cases hin : a - p.at_ < p.size
   · have hh : hasB p a n = decide (n ≤ p.size - (a - p.at_)) := by simp [hasB, hin]
     rw [hh]
     have HE := h1_ heq
     clear hh heq
     go_enter Tryz.func178, Tryz.ntmps178
     go_wp2_with (go_at_call 160; refine (ja_ s _ ps _ _ HA.out (HS.out.below ((Below.refl _ _).alloc (Nat.le_refl _) _)) k HK.out (by rw [← HP.out]; exact HE.out)).mono ?_; rintro e w1 ⟨hb1, rfl⟩; have hr := hd_ hb1; have hsz1 := hb1.size; simp at hsz1; have hn1 := b9_ hb1; have HN1 := h1_ hn1; clear hn1)
     refine ac_ fun W hW => ?_
     have hn2 := ae_ (o' := .cells #[.int .i64 p.at_, .int .i64 p.size, .int .i64 p.kind, .int .i64 p.owner, .int .i64 p.mod, .slice (some ⟨p.blk, 0, none⟩) p.size.toNat p.cap] 302) HN1.out
     have hn3 := heap_alloc_new w1 (.cells #[.int .i64 p.at_, .int .i64 p.size, .int .i64 p.kind, .int .i64 p.owner, .int .i64 p.mod, .slice (some ⟨p.blk, 0, none⟩) p.size.toNat p.cap] 302)
     rw [hW] at hn2 hn3
     (have c0 := ab_ hn2 0 rfl; have f0 := ag_ hn2 0; have c1 := ab_ hn2 1 rfl; have f1 := ag_ hn2 1; have c2 := ab_ hn2 2 rfl; have f2 := ag_ hn2 2; have c3 := ab_ hn2 3 rfl; have f3 := ag_ hn2 3; have c4 := ab_ hn2 4 rfl; have f4 := ag_ hn2 4; have c5 := ab_ hn2 5 rfl; have f5 := ag_ hn2 5)
     (have c0 := ab_ hn3 0 rfl; have f0 := ag_ hn3 0; have c1 := ab_ hn3 1 rfl; have f1 := ag_ hn3 1; have c2 := ab_ hn3 2 rfl; have f2 := ag_ hn3 2; have c3 := ab_ hn3 3 rfl; have f3 := ag_ hn3 3; have c4 := ab_ hn3 4 rfl; have f4 := ag_ hn3 4; have c5 := ab_ hn3 5 rfl; have f5 := ag_ hn3 5)
     go_region
     go_wp2
     have hn4 := az_ (aj_ (aj_ (aj_ (aj_ (aj_ (aj_ hn2 0 (.int .i64 p.at_)) 1 (.int .i64 p.size)) 2 (.int .i64 p.kind)) 3 (.int .i64 p.owner)) 4 (.int .i64 p.mod)) 5 (.slice (some ⟨p.blk, 0, none⟩) p.size.toNat p.cap))
     have hb0 := aw_ ((Below.refl _ _).alloc (Nat.le_refl _) _) hb1
     have hb : Below w.heap.size w W := by rw [← hW]; go_grown
     have hb4 : Below w.heap.size w (((((((W.setCell ⟨w.heap.size, 0, none⟩ (.int .i64 p.at_)).setCell ⟨w.heap.size, 1, none⟩ (.int .i64 p.size)).setCell ⟨w.heap.size, 2, none⟩ (.int .i64 p.kind)).setCell ⟨w.heap.size, 3, none⟩ (.int .i64 p.owner)).setCell ⟨w.heap.size, 4, none⟩ (.int .i64 p.mod)).setCell ⟨w.heap.size, 5, none⟩ (.slice (some ⟨p.blk, 0, none⟩) p.size.toNat p.cap))).drew := by
      go_grown
     refine ac_ fun W4 hW4 => ?_
     rw [hW4] at hn4 hb4
     (have c0 := ab_ hn4 0 rfl; have f0 := ag_ hn4 0; have c1 := ab_ hn4 1 rfl; have f1 := ag_ hn4 1; have c2 := ab_ hn4 2 rfl; have f2 := ag_ hn4 2; have c3 := ab_ hn4 3 rfl; have f3 := ag_ hn4 3; have c4 := ab_ hn4 4 rfl; have f4 := ag_ hn4 4; have c5 := ab_ hn4 5 rfl; have f5 := ag_ hn4 5)
     refine bodyPost_ret (v := .tuple #[.agg #[.int .i64 p.at_, .int .i64 p.size, .int .i64 p.kind, .int .i64 p.owner, .int .i64 p.mod, .slice (some ⟨p.blk, 0, none⟩) p.size.toNat p.cap], .bool (decide (n ≤ p.size - (a - p.at_)))]) (by simp [results, Tryz.results178, go_sem, c0, c1, c2, c3, c4, c5]) rfl ⟨hb4, rfl⟩
   · have hh : hasB p a n = false := by simp [hasB, hin]
     have hin2 : decide (a - p.at_ < p.size) = false := by simp [hin]
     have hin3 : ¬ a - p.at_ < p.size := hin
     rw [hh]
     have HE := h1_ heq
     clear hh heq
     go_enter Tryz.func178, Tryz.ntmps178
     go_wp2_with (go_at_call 160; refine (ja_ s _ ps _ _ HA.out (HS.out.below ((Below.refl _ _).alloc (Nat.le_refl _) _)) k HK.out (by rw [← HP.out]; exact HE.out)).mono ?_; rintro e w1 ⟨hb1, rfl⟩; have hr := hd_ hb1; have hsz1 := hb1.size; simp at hsz1; have hn1 := b9_ hb1; have HN1 := h1_ hn1; clear hn1)
     refine ac_ fun W hW => ?_
     have hn2 := ae_ (o' := .cells #[.int .i64 p.at_, .int .i64 p.size, .int .i64 p.kind, .int .i64 p.owner, .int .i64 p.mod, .slice (some ⟨p.blk, 0, none⟩) p.size.toNat p.cap] 302) HN1.out
     have hn3 := heap_alloc_new w1 (.cells #[.int .i64 p.at_, .int .i64 p.size, .int .i64 p.kind, .int .i64 p.owner, .int .i64 p.mod, .slice (some ⟨p.blk, 0, none⟩) p.size.toNat p.cap] 302)
     rw [hW] at hn2 hn3
     (have c0 := ab_ hn2 0 rfl; have f0 := ag_ hn2 0; have c1 := ab_ hn2 1 rfl; have f1 := ag_ hn2 1; have c2 := ab_ hn2 2 rfl; have f2 := ag_ hn2 2; have c3 := ab_ hn2 3 rfl; have f3 := ag_ hn2 3; have c4 := ab_ hn2 4 rfl; have f4 := ag_ hn2 4; have c5 := ab_ hn2 5 rfl; have f5 := ag_ hn2 5)
     (have c0 := ab_ hn3 0 rfl; have f0 := ag_ hn3 0; have c1 := ab_ hn3 1 rfl; have f1 := ag_ hn3 1; have c2 := ab_ hn3 2 rfl; have f2 := ag_ hn3 2; have c3 := ab_ hn3 3 rfl; have f3 := ag_ hn3 3; have c4 := ab_ hn3 4 rfl; have f4 := ag_ hn3 4; have c5 := ab_ hn3 5 rfl; have f5 := ag_ hn3 5)
     go_region
     go_wp2
     have hn4 := az_ (aj_ (aj_ (aj_ (aj_ (aj_ (aj_ hn2 0 (.int .i64 p.at_)) 1 (.int .i64 p.size)) 2 (.int .i64 p.kind)) 3 (.int .i64 p.owner)) 4 (.int .i64 p.mod)) 5 (.slice (some ⟨p.blk, 0, none⟩) p.size.toNat p.cap))
     have hb0 := aw_ ((Below.refl _ _).alloc (Nat.le_refl _) _) hb1
     have hb : Below w.heap.size w W := by rw [← hW]; go_grown
     have hb4 : Below w.heap.size w (((((((W.setCell ⟨w.heap.size, 0, none⟩ (.int .i64 p.at_)).setCell ⟨w.heap.size, 1, none⟩ (.int .i64 p.size)).setCell ⟨w.heap.size, 2, none⟩ (.int .i64 p.kind)).setCell ⟨w.heap.size, 3, none⟩ (.int .i64 p.owner)).setCell ⟨w.heap.size, 4, none⟩ (.int .i64 p.mod)).setCell ⟨w.heap.size, 5, none⟩ (.slice (some ⟨p.blk, 0, none⟩) p.size.toNat p.cap))).drew := by
      go_grown
     refine ac_ fun W4 hW4 => ?_
     rw [hW4] at hn4 hb4
     (have c0 := ab_ hn4 0 rfl; have f0 := ag_ hn4 0; have c1 := ab_ hn4 1 rfl; have f1 := ag_ hn4 1; have c2 := ab_ hn4 2 rfl; have f2 := ag_ hn4 2; have c3 := ab_ hn4 3 rfl; have f3 := ag_ hn4 3; have c4 := ab_ hn4 4 rfl; have f4 := ag_ hn4 4; have c5 := ab_ hn4 5 rfl; have f5 := ag_ hn4 5)
     refine bodyPost_ret (v := .tuple #[.agg #[.int .i64 p.at_, .int .i64 p.size, .int .i64 p.kind, .int .i64 p.owner, .int .i64 p.mod, .slice (some ⟨p.blk, 0, none⟩) p.size.toNat p.cap], .bool (false)]) (by simp [results, Tryz.results178, go_sem, c0, c1, c2, c3, c4, c5]) rfl ⟨hb4, rfl⟩
end
end Go.Proofs.YtacaejpamidkcaaGreatDoor
