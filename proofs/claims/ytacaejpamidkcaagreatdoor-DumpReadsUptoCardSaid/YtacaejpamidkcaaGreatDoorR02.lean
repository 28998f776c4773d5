/- Contracts of package word. Contracts of package room. room.Right. room.Cut and room.Fit. -/
import Derived.Test.YtacaejpamidkcaaGreatDoorProg
import Derived.WalkSpells
import Derived.WalkLawsBesides
import Derived.BigGuardPart
import Derived.Test.YtacaejpamidkcaaGreatDoorR01
import Derived.Deep.RegionHeld3
import Derived.Deep.AppendLies
set_option linter.unusedVariables false
set_option linter.unusedSimpArgs false
set_option maxRecDepth 100000
namespace Go.Proofs.YtacaejpamidkcaaGreatDoor
section
open Go.RowKit
def ma_ (n to : Int) : Int := n - n % to
def upI (n to : Int) : Int := if n % to = 0 then n else n - n % to + to
theorem fg_ {k : IntKind} {a b : Int} (h : a = b) : Ending.returned (.int k a) = .returned (.int k b) := by rw [h]
theorem it_ {a b : Bool} (h : a = b) : Ending.returned (.bool a) = .returned (.bool b) := by rw [h]
theorem v9_ (n to : Int) (w : World) (h1 : 1 ≤ to) (h2 : to ≤ 1099511627776) (h3 : -1152921504606846976 ≤ n) (h4 : n ≤ 1152921504606846976) :
 Calls Tryz.prog 205 #[.int .i64 n, .int .i64 to] w fun e w' => e = .returned (.int .i64 (ma_ n to)) ∧ w = w' := by
 have T := h1_ (q9_ n to h1)
 have h0 := Int.emod_nonneg n (show to ≠ 0 by omega)
 have hl := Int.emod_lt_of_pos n (show 0 < to by omega)
 go_enter Tryz.func205, Tryz.ntmps205
 go_wp2
 · have := T.out.1 (by assumption)
   go_ret
   refine ⟨fg_ ?_, rfl⟩
   unfold ma_
   rw [IntWalk.wrap64_in (n.tmod to + to) ⟨by omega, by omega⟩, IntWalk.wrap64_in _ ⟨by omega, by omega⟩, this]
 · have := T.out.2 (by assumption)
   go_ret
   refine ⟨fg_ ?_, rfl⟩
   unfold ma_
   rw [IntWalk.wrap64_in _ ⟨by omega, by omega⟩, this]
theorem i6_ (n to : Int) (w : World) (h1 : 1 ≤ to) (h2 : to ≤ 1099511627776) (h3 : -1152921504606846976 ≤ n) (h4 : n ≤ 1152921504606846976) :
 Calls Tryz.prog 105 #[.int .i64 n, .int .i64 to] w fun e w' => e = .returned (.int .i64 (upI n to)) ∧ w = w' := by
 have h0 := Int.emod_nonneg n (show to ≠ 0 by omega)
 have hl := Int.emod_lt_of_pos n (show 0 < to by omega)
 have hd : ma_ n to = n - n % to := rfl
 have ha : ma_ n to ≤ n := by omega
 have hb : n - to < ma_ n to := by omega
 have HD := h1_ hd
 clear hd h0 hl
 go_enter Tryz.func105, Tryz.ntmps105
 go_wp2_with (go_at_call 205; refine (v9_ _ _ _ h1 h2 h3 h4).mono ?_; rintro e w' ⟨rfl, rfl⟩)
 · go_ret
   refine ⟨fg_ ?_, rfl⟩
   have hne : (ma_ n to != n) = true := by assumption
   have hd := HD.out
   simp at hne
   unfold upI
   rw [if_neg (by omega), hd]
 · go_ret
   refine ⟨fg_ ?_, rfl⟩
   have hne : (ma_ n to != n) = false := by assumption
   have hd := HD.out
   simp at hne
   unfold upI
   rw [if_pos (by omega)]
end
section
open Go.RowKit
def fh_ (a s : Int) : Bool := decide (0 ≤ a) && decide (a ≤ 1099511627776) && decide (0 ≤ s) && decide (s ≤ 1099511627776 - a)
abbrev mb_ (a s : Int) : Value := .agg #[.int .i64 a, .int .i64 s]
theorem sw_ (a s : Int) (w : World) :
 Calls Tryz.prog 234 #[mb_ a s] w fun e w' => e = .returned (.bool (fh_ a s)) ∧ w' = w.alloc (.cells #[.int .i64 a, .int .i64 s] 67) := by
 by_cases h1 : 0 ≤ a
 · by_cases h2 : a ≤ 1099511627776
   · by_cases h3 : 0 ≤ s
     · go_enter Tryz.func234, Tryz.ntmps234
       go_wp2
       go_ret
       exact ⟨it_ (by simp [fh_, h1, h2, h3]), rfl⟩
     · go_enter Tryz.func234, Tryz.ntmps234
       go_wp2
       go_ret
       exact ⟨it_ (by simp [fh_]; omega), rfl⟩
   · go_enter Tryz.func234, Tryz.ntmps234
     go_wp2
     go_ret
     exact ⟨it_ (by simp [fh_]; omega), rfl⟩
 · go_enter Tryz.func234, Tryz.ntmps234
   go_wp2
   go_ret
   exact ⟨it_ (by simp [fh_]; omega), rfl⟩
theorem ld_ (a s : Int) (w : World) (h : -9223372036854775808 ≤ a + s) (h' : a + s ≤ 9223372036854775807) :
 Calls Tryz.prog 236 #[mb_ a s] w fun e w' => e = .returned (.int .i64 (a + s)) ∧ w' = w.alloc (.cells #[.int .i64 a, .int .i64 s] 67) := by
 go_enter Tryz.func236, Tryz.ntmps236
 go_wp2
 go_ret
 exact ⟨rfl, rfl⟩
theorem valid_b (a s : Int) (w : World) : Calls Tryz.prog 234 #[mb_ a s] w fun e w' => e = .returned (.bool (fh_ a s)) ∧ Below w.heap.size w w' :=
 (sw_ a s w).mono fun _ _ ⟨he, hw⟩ => ⟨he, hw ▸ (Below.refl _ _).alloc (Nat.le_refl _) _⟩
theorem le_ (a s : Int) (h : fh_ a s = true) (w : World) : Calls Tryz.prog 234 #[mb_ a s] w fun e w' => e = .returned (.bool true) ∧ Below w.heap.size w w' :=
 (valid_b a s w).mono fun _ _ ⟨he, hw⟩ => ⟨by rw [he, h], hw⟩
theorem end_b (a s : Int) (w : World) (h : -9223372036854775808 ≤ a + s) (h' : a + s ≤ 9223372036854775807) :
 Calls Tryz.prog 236 #[mb_ a s] w fun e w' => e = .returned (.int .i64 (a + s)) ∧ Below w.heap.size w w' :=
 (ld_ a s w h h').mono fun _ _ ⟨he, hw⟩ => ⟨he, hw ▸ (Below.refl _ _).alloc (Nat.le_refl _) _⟩
def cs_ : List (Int × Int) → Prop
 | [] => True
 | [x] => 0 ≤ x.1 ∧ 0 < x.2 ∧ x.1 + x.2 ≤ 1099511627776
 | x :: y :: l => 0 ≤ x.1 ∧ 0 < x.2 ∧ x.1 + x.2 < y.1 ∧ cs_ (y :: l)
def bq_ (l : List (Int × Int)) : List Value := l.flatMap fun x => [.int .i64 x.1, .int .i64 x.2]
theorem cs_.at {l : List (Int × Int)} (h : cs_ l) : ∀ i (hi : i < l.length), 0 ≤ (l[i]).1 ∧ 0 < (l[i]).2 ∧ (l[i]).1 + (l[i]).2 ≤ 1099511627776 := by
 induction l with
 | nil => intro i hi; simp at hi
 | cons x l ih =>
  cases l with
  | nil => intro i hi; simp at hi; subst hi; exact h
  | cons y l =>
   obtain ⟨h1, h2, h3, h4⟩ := h
   have := ih h4
   intro i hi
   cases i with
   | zero => have h0 := this 0 (by simp); simp at h0 ⊢; omega
   | succ i => exact this i (by simpa using hi)
theorem cs_.gap {l : List (Int × Int)} (h : cs_ l) : ∀ i (hi : i + 1 < l.length), (l[i]).1 + (l[i]).2 < (l[i+1]).1 := by
 induction l with
 | nil => intro i hi; simp at hi
 | cons x l ih =>
  cases l with
  | nil => intro i hi; simp at hi
  | cons y l =>
   obtain ⟨h1, h2, h3, h4⟩ := h
   intro i hi
   cases i with
   | zero => simpa using h3
   | succ i => exact ih h4 i (by simpa using hi)
theorem cg_ (l : List (Int × Int)) : ∀ i (hi : i < l.length), (bq_ l)[i * 2]? = some (.int .i64 (l[i]).1) ∧ (bq_ l)[i * 2 + 1]? = some (.int .i64 (l[i]).2) := by
 induction l with
 | nil => intro i hi; simp at hi
 | cons x l ih =>
  intro i hi
  cases i with
  | zero => simp [bq_]
  | succ i =>
   have := ih i (by simpa using hi)
   have e : bq_ (x :: l) = .int .i64 x.1 :: .int .i64 x.2 :: bq_ l := rfl
   rw [e, show (i + 1) * 2 = i * 2 + 1 + 1 by omega]
   simpa using this
end
section
open Go.RowKit
attribute [local go_sem] ak_ af_
theorem mc_ (g cap : Nat) (l : List (Int × Int)) (w : World) (hR : cs_ l) (hcap : l.length ≤ 1000000)
 (hc : ∀ j u, (bq_ l)[j]? = some u → w.cell? ⟨g, j, none⟩ = some u) :
 Calls Tryz.prog 233 #[.slice (some ⟨g, 0, none⟩) l.length cap] w fun e w' => e = .returned (.bool true) ∧ Below w.heap.size w w' := by
 go_enter Tryz.func233, Tryz.ntmps233
 go_wp2
 go_loopw [7] (fun i wr => ∃ k : Nat, k ≤ l.length ∧ i = .int .i64 k ∧ Below w.heap.size w wr) (fun i _ => l.length - (RowKit.intOf i).toNat)
 case atStart => exact ⟨0, Nat.zero_le _, rfl, Below.refl _ _⟩
 case round =>
  obtain ⟨k, hk, rfl, hb⟩ := hrel
  by_cases hlt : k < l.length
  · obtain ⟨h1a, h1b, h1c⟩ := hR.at k hlt
    have hg : g < w.heap.size := World.block_lt_of_cell? w _ (hc _ _ (cg_ l k hlt).1)
    have hgr : g < wr.heap.size := Nat.lt_of_lt_of_le hg hb.size
    have hgr' : g < wr.heap.size + 1 := by omega
    have c0 : wr.cell? ⟨g, k * 2, none⟩ = some (.int .i64 (l[k]).1) := (hb.cell (p := ⟨g, k * 2, none⟩) hg).trans (hc _ _ (cg_ l k hlt).1)
    have c1 : wr.cell? ⟨g, k * 2 + 1, none⟩ = some (.int .i64 (l[k]).2) := (hb.cell (p := ⟨g, k * 2 + 1, none⟩) hg).trans (hc _ _ (cg_ l k hlt).2)
    have hv : fh_ (l[k]).1 (l[k]).2 = true := by simp [fh_]; omega
    have hz : ((l[k]).2 == 0) = false := by simp; omega
    by_cases hk0 : k = 0
    · clear hc hR
      subst hk0
      go_wp2
      refine co_ (by kernel_rfl) (by kernel_rfl) ?_
      repeat (go_big_quiet_step ((go_at_call 234; exact c5_ (le_ _ _ hv _))))
      refine bn_ ?_
      intro w1 hb1
      go_wp2
      go_roundw
      case rel => exact ⟨1, by omega, by go_num, hb.trans ((Below.refl _ _).alloc hb.size _ |>.trans (hb1.mono (by simp; have := hb.size; omega)))⟩
      case measure => simp [RowKit.intOf]; omega
    · obtain ⟨j, rfl⟩ : ∃ j, k = j + 1 := ⟨k - 1, by omega⟩
      have hj : j < l.length := by omega
      have hgap := hR.gap j hlt
      obtain ⟨h2a, h2b, h2c⟩ := hR.at j hj
      have c2 : wr.cell? ⟨g, j * 2, none⟩ = some (.int .i64 (l[j]).1) := (hb.cell (p := ⟨g, j * 2, none⟩) hg).trans (hc _ _ (cg_ l j hj).1)
      have c3 : wr.cell? ⟨g, j * 2 + 1, none⟩ = some (.int .i64 (l[j]).2) := (hb.cell (p := ⟨g, j * 2 + 1, none⟩) hg).trans (hc _ _ (cg_ l j hj).2)
      clear hc hR
      go_wp2
      refine co_ (by kernel_rfl) (by kernel_rfl) ?_
      repeat (go_big_quiet_step ((first | (go_at_call 234; exact c5_ (le_ _ _ hv _)) | (go_at_call 236; exact c5_ (end_b _ _ _ (by omega) (by omega))))))
      refine bn_ ?_
      intro w1 hb1
      go_wp2
      go_roundw
      case rel => exact ⟨j + 1 + 1, by omega, by go_num, hb.trans ((Below.refl _ _).alloc hb.size _ |>.trans (hb1.mono (by simp; have := hb.size; omega)))⟩
      case measure => simp [RowKit.intOf]; omega
  · clear hc hR
    go_wp2
    go_ret
    exact ⟨rfl, hb⟩
theorem md_ (w : World) :
 Calls Tryz.prog 233 #[.slice none 0 0] w fun e w' => e = .returned (.bool true) ∧ Below w.heap.size w w' := by
 go_enter Tryz.func233, Tryz.ntmps233
 go_wp2
 refine wp_loop_rounds 1 ?_
 rw [rounds_succ]
 go_wp2
 go_ret
 exact ⟨rfl, Below.refl _ _⟩
end
section
open Go.RowKit
attribute [local go_sem] ak_ af_
theorem sx_ : (Tryz.prog.info? 67).map (fun i => (i.zero, i.size, i.bytes)) = some (some (.agg #[.int .i64 0, .int .i64 0]), 2, 16) := by kernel_rfl
def cz_ (l : List (Int × Int)) (f u : Int) : List (Int × Int) := if f < u then l ++ [(f, u - f)] else l
def i7_ (w w' : World) (ob : Nat) (keep : Nat → Prop) : Prop :=
 w'.os = w.os ∧ w'.tape = w.tape ∧ w'.output = w.output ∧ w.heap.size ≤ w'.heap.size ∧ ∀ b, keep b → w'.heap[b]? = w.heap[b]?
theorem b5_ {w : World} {e : TypeId} {size : Nat} {v : Value} {n : Nat} {xs : List Value} (h : w.ownsRow 0 e size v n xs) : ∀ g, v.ownBlock = some g → ∃ cur, w.heap[g]? = some (.cells cur e (0, 0)) := by
 intro g hg
 rcases h.2 with ⟨rfl, _⟩ | ⟨g', cap, cur, rfl, _, hgg, _⟩
 · simp [Value.ownBlock] at hg
 · simp [Value.ownBlock] at hg; subst hg; exact ⟨cur, hgg⟩
theorem p3_ (ob : Nat) (v : Value) (l : List (Int × Int)) (f u : Int) (w : World) (hl : l.length ≤ 1000000)
 (hf : 0 ≤ f) (hu : u ≤ 1099511627776) (hf' : f ≤ 1099511627776) (hu' : 0 ≤ u)
 (hv : w.heap[ob]? = some (.cells #[v] 44 (0, 0))) (hown : w.ownsRow 0 67 2 v l.length (bq_ l)) :
 Calls Tryz.prog 235 #[.int .i64 f, .int .i64 u, .pointer (some ⟨ob, 0, none⟩)] w fun e w' => e = .returned (.tuple #[]) ∧
  ∃ v', w'.heap[ob]? = some (.cells #[v'] 44 (0, 0)) ∧ w'.ownsRow 0 67 2 v' (cz_ l f u).length (bq_ (cz_ l f u)) ∧
   (v'.ownBlock = v.ownBlock ∨ ∃ g, v'.ownBlock = some g ∧ w.heap.size ≤ g) ∧
   i7_ w w' ob (fun b => b < w.heap.size ∧ b ≠ ob ∧ some b ≠ v.ownBlock) := by
 have hc := cell_of_one hv
 have hfr := free_of_one hv
 have hlt := lt_of_block hv
 by_cases h : f < u
 · obtain ⟨i0, hi, hz0, hz1, hz2⟩ := info_parts sx_
   go_enter Tryz.func235, Tryz.ntmps235
   go_wp2_with (at_builtin; refine wpList_append_lies _ rfl _ _ _ rfl 0 67 i0 (.agg #[.int .i64 0, .int .i64 0]) 2 16 Tryz.underlying44 hi hz0 hz1 hz2 rfl (by omega) _ _ _ rfl (hown.alloc _) ⟨w.heap.size, 0, none⟩ 1 1 [.int .i64 f, .int .i64 (u - f)] rfl rfl ?c1 ?c2 (by omega) ?c3 ?c4 ?c5 (w.heap.size + 1) (by simp) ?_)
   case c1 => exact World.news_of_block (cs := #[.int .i64 f, .int .i64 (u - f)]) (t := 67) (fr := (0, 0)) (heap_alloc_new w _)
   case c2 => simp [Value.oneCell']
   case c3 => unfold maxLen; omega
   case c4 => omega
   case c5 => omega
   intro g cap w1 hown1 hgrow hat hlt1
   have hne : some ob ≠ v.ownBlock := by
    intro e
    obtain ⟨cur, hcur⟩ := b5_ hown ob e.symm
    rw [hv] at hcur
    simp at hcur
   have hv1 : w1.heap[ob]? = some (.cells #[v] 44 (0, 0)) := (hgrow.block ob (by simp; omega) hne).trans ((Below.heap_alloc w _ ob hlt).trans hv)
   have hgob : g ≠ ob := by
    rcases hat with h' | h'
    · intro e; exact hne (by rw [h', e])
    · omega
   have hs1 := hgrow.size
   simp at hs1
   have hf1 := free_of_one hv1
   have hc1 := cell_of_one hv1
   have HH := h4_ hown1 hgrow hat hlt1
   have HV := h2_ hv hv1
   clear hown1 hgrow hat hlt1 hv hv1
   go_wp2
   go_end0
   obtain ⟨hown1, hgrow, hat, hlt1⟩ := HH.out
   obtain ⟨hv, hv1⟩ := HV.out
   have hk : cz_ l f u = l ++ [(f, u - f)] := by simp [cz_, h]
   have hsc : bq_ (l ++ [(f, u - f)]) = bq_ l ++ [.int .i64 f, .int .i64 (u - f)] := by simp [bq_]
   refine ⟨rfl, .slice (some ⟨g, 0, none⟩) (l.length + 1) cap, one_setCell hv1, ?_, ?_, ?_⟩
   · rw [hk, hsc, List.length_append]
     exact ownsRow_setCell_other hown1 (by simpa [Value.ownBlock] using hgob) _
   · rcases hat with h' | h'
     · exact .inl h'.symm
     · exact .inr ⟨g, rfl, by omega⟩
   · refine ⟨hgrow.os, hgrow.tape, hgrow.output, by simp [World.setCell]; omega, fun b hb => ?_⟩
     rw [Below.heap_setCell _ _ _ _ hb.2.1, hgrow.block b (by simp; omega) hb.2.2]
     exact Below.heap_alloc w _ b hb.1
 · go_enter Tryz.func235, Tryz.ntmps235
   go_wp2
   go_end0
   have hk : cz_ l f u = l := by simp [cz_]; omega
   refine ⟨rfl, v, hv, by rw [hk]; exact hown, .inl rfl, rfl, rfl, rfl, Nat.le_refl _, fun _ _ => rfl⟩
end
end Go.Proofs.YtacaejpamidkcaaGreatDoor
