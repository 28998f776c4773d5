/- Contracts of package word. Contracts of package room. room.Right. room.Cut and room.Fit. -/
import Derived.Test.YtkbilipgidcgeaaGreatDoorProg
import Derived.WalkSpells
import Derived.WalkLawsBesides
import Derived.Lib.Hide
import Derived.BigGuardPart
import Derived.Test.YtkbilipgidcgeaaGreatDoorH00
import Derived.Deep.RegionHeld3
import Derived.Deep.QuietTactic
import Derived.BigQuiet
import Derived.Deep.AppendLies
set_option linter.unusedVariables false
set_option linter.unusedSimpArgs false
namespace Go.Proofs.YtkbilipgidcgeaaGreatDoor
open Go.RowKit

def downI (n to : Int) : Int := n - n % to
def upI (n to : Int) : Int := if n % to = 0 then n else n - n % to + to

theorem ret_int {k : IntKind} {a b : Int} (h : a = b) : Ending.returned (.int k a) = .returned (.int k b) := by rw [h]
theorem ret_bool {a b : Bool} (h : a = b) : Ending.returned (.bool a) = .returned (.bool b) := by rw [h]

set_option maxRecDepth 100000 in
theorem down_any (n to : Int) (w : World) (h1 : 1 ≤ to) (h2 : to ≤ 1099511627776) (h3 : -1152921504606846976 ≤ n) (h4 : n ≤ 1152921504606846976) :
    Calls Tryz.prog 186 #[.int .i64 n, .int .i64 to] w fun e w' => e = .returned (.int .i64 (downI n to)) ∧ w = w' := by
  have T := Lib.hid (tmod_cases n to h1)
  have h0 := Int.emod_nonneg n (show to ≠ 0 by omega)
  have hl := Int.emod_lt_of_pos n (show 0 < to by omega)
  go_enter Tryz.func186, Tryz.ntmps186
  go_wp2
  · have := T.out.1 (by assumption)
    go_ret
    refine ⟨ret_int ?_, rfl⟩
    unfold downI
    rw [IntWalk.wrap64_in (n.tmod to + to) ⟨by omega, by omega⟩, IntWalk.wrap64_in _ ⟨by omega, by omega⟩, this]
  · have := T.out.2 (by assumption)
    go_ret
    refine ⟨ret_int ?_, rfl⟩
    unfold downI
    rw [IntWalk.wrap64_in _ ⟨by omega, by omega⟩, this]

theorem up_any (n to : Int) (w : World) (h1 : 1 ≤ to) (h2 : to ≤ 1099511627776) (h3 : -1152921504606846976 ≤ n) (h4 : n ≤ 1152921504606846976) :
    Calls Tryz.prog 105 #[.int .i64 n, .int .i64 to] w fun e w' => e = .returned (.int .i64 (upI n to)) ∧ w = w' := by
  have h0 := Int.emod_nonneg n (show to ≠ 0 by omega)
  have hl := Int.emod_lt_of_pos n (show 0 < to by omega)
  have hd : downI n to = n - n % to := rfl
  have ha : downI n to ≤ n := by omega
  have hb : n - to < downI n to := by omega
  have HD := Lib.hid hd
  clear hd h0 hl
  go_enter Tryz.func105, Tryz.ntmps105
  go_wp2_with (go_at_call 186; refine (down_any _ _ _ h1 h2 h3 h4).mono ?_; rintro e w' ⟨rfl, rfl⟩)
  · go_ret
    refine ⟨ret_int ?_, rfl⟩
    have hne : (downI n to != n) = true := by assumption
    have hd := HD.out
    simp at hne
    unfold upI
    rw [if_neg (by omega), hd]
  · go_ret
    refine ⟨ret_int ?_, rfl⟩
    have hne : (downI n to != n) = false := by assumption
    have hd := HD.out
    simp at hne
    unfold upI
    rw [if_pos (by omega)]
end Go.Proofs.YtkbilipgidcgeaaGreatDoor

namespace Go.Proofs.YtkbilipgidcgeaaGreatDoor
open Go.RowKit

def validB (a s : Int) : Bool := decide (0 ≤ a) && decide (a ≤ 1099511627776) && decide (0 ≤ s) && decide (s ≤ 1099511627776 - a)

/-- The value and the block of a span. -/
abbrev spanV (a s : Int) : Value := .agg #[.int .i64 a, .int .i64 s]

set_option maxRecDepth 100000 in
theorem valid_any (a s : Int) (w : World) :
    Calls Tryz.prog 214 #[spanV a s] w fun e w' => e = .returned (.bool (validB a s)) ∧ w' = w.alloc (.cells #[.int .i64 a, .int .i64 s] 49) := by
  by_cases h1 : 0 ≤ a
  · by_cases h2 : a ≤ 1099511627776
    · by_cases h3 : 0 ≤ s
      · go_enter Tryz.func214, Tryz.ntmps214
        go_wp2
        go_ret
        exact ⟨ret_bool (by simp [validB, h1, h2, h3]), rfl⟩
      · go_enter Tryz.func214, Tryz.ntmps214
        go_wp2
        go_ret
        exact ⟨ret_bool (by simp [validB]; omega), rfl⟩
    · go_enter Tryz.func214, Tryz.ntmps214
      go_wp2
      go_ret
      exact ⟨ret_bool (by simp [validB]; omega), rfl⟩
  · go_enter Tryz.func214, Tryz.ntmps214
    go_wp2
    go_ret
    exact ⟨ret_bool (by simp [validB]; omega), rfl⟩

theorem end_any (a s : Int) (w : World) (h : -9223372036854775808 ≤ a + s) (h' : a + s ≤ 9223372036854775807) :
    Calls Tryz.prog 216 #[spanV a s] w fun e w' => e = .returned (.int .i64 (a + s)) ∧ w' = w.alloc (.cells #[.int .i64 a, .int .i64 s] 49) := by
  go_enter Tryz.func216, Tryz.ntmps216
  go_wp2
  go_ret
  exact ⟨rfl, rfl⟩

theorem valid_b (a s : Int) (w : World) : Calls Tryz.prog 214 #[spanV a s] w fun e w' => e = .returned (.bool (validB a s)) ∧ Below w.heap.size w w' :=
  (valid_any a s w).mono fun _ _ ⟨he, hw⟩ => ⟨he, hw ▸ (Below.refl _ _).alloc (Nat.le_refl _) _⟩
theorem valid_t (a s : Int) (h : validB a s = true) (w : World) : Calls Tryz.prog 214 #[spanV a s] w fun e w' => e = .returned (.bool true) ∧ Below w.heap.size w w' :=
  (valid_b a s w).mono fun _ _ ⟨he, hw⟩ => ⟨by rw [he, h], hw⟩
theorem end_b (a s : Int) (w : World) (h : -9223372036854775808 ≤ a + s) (h' : a + s ≤ 9223372036854775807) :
    Calls Tryz.prog 216 #[spanV a s] w fun e w' => e = .returned (.int .i64 (a + s)) ∧ Below w.heap.size w w' :=
  (end_any a s w h h').mono fun _ _ ⟨he, hw⟩ => ⟨he, hw ▸ (Below.refl _ _).alloc (Nat.le_refl _) _⟩

/-- A right list: each span valid and not empty, and a gap between neighbours. -/
def RightL : List (Int × Int) → Prop
  | [] => True
  | [x] => 0 ≤ x.1 ∧ 0 < x.2 ∧ x.1 + x.2 ≤ 1099511627776
  | x :: y :: l => 0 ≤ x.1 ∧ 0 < x.2 ∧ x.1 + x.2 < y.1 ∧ RightL (y :: l)

def spanCells (l : List (Int × Int)) : List Value := l.flatMap fun x => [.int .i64 x.1, .int .i64 x.2]

theorem RightL.at {l : List (Int × Int)} (h : RightL l) : ∀ i (hi : i < l.length), 0 ≤ (l[i]).1 ∧ 0 < (l[i]).2 ∧ (l[i]).1 + (l[i]).2 ≤ 1099511627776 := by
  induction l with
  | nil => intro i hi; simp at hi
  | cons x l ih =>
    cases l with
    | nil => intro i hi; simp at hi; subst hi; exact h
    | cons y l =>
      obtain ⟨h1, h2, h3, h4⟩ := h
      have := ih h4
      intro i hi
      cases i with
      | zero => have h0 := this 0 (by simp); simp at h0 ⊢; omega
      | succ i => exact this i (by simpa using hi)

theorem RightL.gap {l : List (Int × Int)} (h : RightL l) : ∀ i (hi : i + 1 < l.length), (l[i]).1 + (l[i]).2 < (l[i+1]).1 := by
  induction l with
  | nil => intro i hi; simp at hi
  | cons x l ih =>
    cases l with
    | nil => intro i hi; simp at hi
    | cons y l =>
      obtain ⟨h1, h2, h3, h4⟩ := h
      intro i hi
      cases i with
      | zero => simpa using h3
      | succ i => exact ih h4 i (by simpa using hi)

theorem spanCells_length (l : List (Int × Int)) : (spanCells l).length = l.length * 2 := by
  induction l with
  | nil => rfl
  | cons x l ih => simp [spanCells] at ih ⊢; omega

theorem spanCells_get (l : List (Int × Int)) : ∀ i (hi : i < l.length), (spanCells l)[i * 2]? = some (.int .i64 (l[i]).1) ∧ (spanCells l)[i * 2 + 1]? = some (.int .i64 (l[i]).2) := by
  induction l with
  | nil => intro i hi; simp at hi
  | cons x l ih =>
    intro i hi
    cases i with
    | zero => simp [spanCells]
    | succ i =>
      have := ih i (by simpa using hi)
      have e : spanCells (x :: l) = .int .i64 x.1 :: .int .i64 x.2 :: spanCells l := rfl
      rw [e, show (i + 1) * 2 = i * 2 + 1 + 1 by omega]
      simpa using this
end Go.Proofs.YtkbilipgidcgeaaGreatDoor

namespace Go.Proofs.YtkbilipgidcgeaaGreatDoor
open Go.RowKit

attribute [local go_sem] ext_cell ext_frozen

set_option maxRecDepth 100000 in
theorem right_row (g cap : Nat) (l : List (Int × Int)) (w : World) (hR : RightL l) (hcap : l.length ≤ 1000000)
    (hc : ∀ j u, (spanCells l)[j]? = some u → w.cell? ⟨g, j, none⟩ = some u) :
    Calls Tryz.prog 213 #[.slice (some ⟨g, 0, none⟩) l.length cap] w fun e w' => e = .returned (.bool true) ∧ Below w.heap.size w w' := by
  go_enter Tryz.func213, Tryz.ntmps213
  go_wp2
  go_loopw [7] (fun i wr => ∃ k : Nat, k ≤ l.length ∧ i = .int .i64 k ∧ Below w.heap.size w wr) (fun i _ => l.length - (intOf i).toNat)
  case atStart => exact ⟨0, Nat.zero_le _, rfl, Below.refl _ _⟩
  case round =>
    obtain ⟨k, hk, rfl, hb⟩ := hrel
    by_cases hlt : k < l.length
    · obtain ⟨h1a, h1b, h1c⟩ := hR.at k hlt
      have hg : g < w.heap.size := World.block_lt_of_cell? w _ (hc _ _ (spanCells_get l k hlt).1)
      have hgr : g < wr.heap.size := Nat.lt_of_lt_of_le hg hb.size
      have hgr' : g < wr.heap.size + 1 := by omega
      have c0 : wr.cell? ⟨g, k * 2, none⟩ = some (.int .i64 (l[k]).1) := (hb.cell (p := ⟨g, k * 2, none⟩) hg).trans (hc _ _ (spanCells_get l k hlt).1)
      have c1 : wr.cell? ⟨g, k * 2 + 1, none⟩ = some (.int .i64 (l[k]).2) := (hb.cell (p := ⟨g, k * 2 + 1, none⟩) hg).trans (hc _ _ (spanCells_get l k hlt).2)
      have hv : validB (l[k]).1 (l[k]).2 = true := by simp [validB]; omega
      have hz : ((l[k]).2 == 0) = false := by simp; omega
      by_cases hk0 : k = 0
      · clear hc hR
        subst hk0
        go_wp2
        refine region_ext (by kernel_rfl) (by kernel_rfl) ?_
        repeat (go_big_quiet_step ((go_at_call 214; exact calls_ext (valid_t _ _ hv _))))
        refine region_ext_end ?_
        intro w1 hb1
        go_wp2
        go_roundw
        case rel => exact ⟨1, by omega, by go_num, hb.trans ((Below.refl _ _).alloc hb.size _ |>.trans (hb1.mono (by simp; have := hb.size; omega)))⟩
        case measure => simp [intOf]; omega
      · obtain ⟨j, rfl⟩ : ∃ j, k = j + 1 := ⟨k - 1, by omega⟩
        have hj : j < l.length := by omega
        have hgap := hR.gap j hlt
        obtain ⟨h2a, h2b, h2c⟩ := hR.at j hj
        have c2 : wr.cell? ⟨g, j * 2, none⟩ = some (.int .i64 (l[j]).1) := (hb.cell (p := ⟨g, j * 2, none⟩) hg).trans (hc _ _ (spanCells_get l j hj).1)
        have c3 : wr.cell? ⟨g, j * 2 + 1, none⟩ = some (.int .i64 (l[j]).2) := (hb.cell (p := ⟨g, j * 2 + 1, none⟩) hg).trans (hc _ _ (spanCells_get l j hj).2)
        clear hc hR
        go_wp2
        refine region_ext (by kernel_rfl) (by kernel_rfl) ?_
        repeat (go_big_quiet_step ((first | (go_at_call 214; exact calls_ext (valid_t _ _ hv _)) | (go_at_call 216; exact calls_ext (end_b _ _ _ (by omega) (by omega))))))
        refine region_ext_end ?_
        intro w1 hb1
        go_wp2
        go_roundw
        case rel => exact ⟨j + 1 + 1, by omega, by go_num, hb.trans ((Below.refl _ _).alloc hb.size _ |>.trans (hb1.mono (by simp; have := hb.size; omega)))⟩
        case measure => simp [intOf]; omega
    · clear hc hR
      go_wp2
      go_ret
      exact ⟨rfl, hb⟩

theorem right_nil (w : World) :
    Calls Tryz.prog 213 #[.slice none 0 0] w fun e w' => e = .returned (.bool true) ∧ Below w.heap.size w w' := by
  go_enter Tryz.func213, Tryz.ntmps213
  go_wp2
  refine wp_loop_rounds 1 ?_
  rw [rounds_succ]
  go_wp2
  go_ret
  exact ⟨rfl, Below.refl _ _⟩
end Go.Proofs.YtkbilipgidcgeaaGreatDoor

namespace Go.Proofs.YtkbilipgidcgeaaGreatDoor
open Go.RowKit

attribute [local go_sem] ext_cell ext_frozen

theorem info_Span : (Tryz.prog.info? 49).map (fun i => (i.zero, i.size, i.bytes)) = some (some (.agg #[.int .i64 0, .int .i64 0]), 2, 16) := by kernel_rfl

/-- One more span, if it is not empty. -/
def keepL (l : List (Int × Int)) (f u : Int) : List (Int × Int) := if f < u then l ++ [(f, u - f)] else l

/-- The variable at 'ob' holds a list of the call's own. -/
def OutAt (w : World) (ob : Nat) (l : List (Int × Int)) : Prop :=
  ∃ v, w.heap[ob]? = some (.cells #[v] 37 (0, 0)) ∧ w.ownsRow 0 49 2 v l.length (spanCells l)

/-- All blocks but that of the variable, and that of its list, are as they were; a new list lies in a new block. -/
def OutKept (w w' : World) (ob : Nat) (keep : Nat → Prop) : Prop :=
  w'.os = w.os ∧ w'.tape = w.tape ∧ w'.output = w.output ∧ w.heap.size ≤ w'.heap.size ∧ ∀ b, keep b → w'.heap[b]? = w.heap[b]?

theorem ownsRow_block {w : World} {e : TypeId} {size : Nat} {v : Value} {n : Nat} {xs : List Value} (h : w.ownsRow 0 e size v n xs) : ∀ g, v.ownBlock = some g → ∃ cur, w.heap[g]? = some (.cells cur e (0, 0)) := by
  intro g hg
  rcases h.2 with ⟨rfl, _⟩ | ⟨g', cap, cur, rfl, _, hgg, _⟩
  · simp [Value.ownBlock] at hg
  · simp [Value.ownBlock] at hg; subst hg; exact ⟨cur, hgg⟩

set_option maxRecDepth 100000 in
theorem keep_any (ob : Nat) (v : Value) (l : List (Int × Int)) (f u : Int) (w : World) (hl : l.length ≤ 1000000)
    (hf : 0 ≤ f) (hu : u ≤ 1099511627776) (hf' : f ≤ 1099511627776) (hu' : 0 ≤ u)
    (hv : w.heap[ob]? = some (.cells #[v] 37 (0, 0))) (hown : w.ownsRow 0 49 2 v l.length (spanCells l)) :
    Calls Tryz.prog 215 #[.int .i64 f, .int .i64 u, .pointer (some ⟨ob, 0, none⟩)] w fun e w' => e = .returned (.tuple #[]) ∧
      ∃ v', w'.heap[ob]? = some (.cells #[v'] 37 (0, 0)) ∧ w'.ownsRow 0 49 2 v' (keepL l f u).length (spanCells (keepL l f u)) ∧
        (v'.ownBlock = v.ownBlock ∨ ∃ g, v'.ownBlock = some g ∧ w.heap.size ≤ g) ∧
        OutKept w w' ob (fun b => b < w.heap.size ∧ b ≠ ob ∧ some b ≠ v.ownBlock) := by
  have hc := cell_of_one hv
  have hfr := free_of_one hv
  have hlt := lt_of_block hv
  by_cases h : f < u
  · obtain ⟨i0, hi, hz0, hz1, hz2⟩ := info_parts info_Span
    go_enter Tryz.func215, Tryz.ntmps215
    go_wp2_with (at_builtin; refine wpList_append_lies _ rfl _ _ _ rfl 0 49 i0 (.agg #[.int .i64 0, .int .i64 0]) 2 16 Tryz.underlying37 hi hz0 hz1 hz2 rfl (by omega) _ _ _ rfl (hown.alloc _) ⟨w.heap.size, 0, none⟩ 1 1 [.int .i64 f, .int .i64 (u - f)] rfl rfl ?c1 ?c2 (by omega) ?c3 ?c4 ?c5 (w.heap.size + 1) (by simp) ?_)
    case c1 => exact World.news_of_block (cs := #[.int .i64 f, .int .i64 (u - f)]) (t := 49) (fr := (0, 0)) (heap_alloc_new w _)
    case c2 => simp [Value.oneCell']
    case c3 => unfold maxLen; omega
    case c4 => omega
    case c5 => omega
    intro g cap w1 hown1 hgrow hat hlt1
    have hne : some ob ≠ v.ownBlock := by
      intro e
      obtain ⟨cur, hcur⟩ := ownsRow_block hown ob e.symm
      rw [hv] at hcur
      simp at hcur
    have hv1 : w1.heap[ob]? = some (.cells #[v] 37 (0, 0)) := (hgrow.block ob (by simp; omega) hne).trans ((Below.heap_alloc w _ ob hlt).trans hv)
    have hgob : g ≠ ob := by
      rcases hat with h' | h'
      · intro e; exact hne (by rw [h', e])
      · omega
    have hs1 := hgrow.size
    simp at hs1
    have hf1 := free_of_one hv1
    have hc1 := cell_of_one hv1
    have HH := Lib.hid (And.intro hown1 (And.intro hgrow (And.intro hat hlt1)))
    have HV := Lib.hid (And.intro hv hv1)
    clear hown1 hgrow hat hlt1 hv hv1
    go_wp2
    go_end0
    obtain ⟨hown1, hgrow, hat, hlt1⟩ := HH.out
    obtain ⟨hv, hv1⟩ := HV.out
    have hk : keepL l f u = l ++ [(f, u - f)] := by simp [keepL, h]
    have hsc : spanCells (l ++ [(f, u - f)]) = spanCells l ++ [.int .i64 f, .int .i64 (u - f)] := by simp [spanCells]
    refine ⟨rfl, .slice (some ⟨g, 0, none⟩) (l.length + 1) cap, one_setCell hv1, ?_, ?_, ?_⟩
    · rw [hk, hsc, List.length_append]
      exact ownsRow_setCell_other hown1 (by simpa [Value.ownBlock] using hgob) _
    · rcases hat with h' | h'
      · exact .inl h'.symm
      · exact .inr ⟨g, rfl, by omega⟩
    · refine ⟨hgrow.os, hgrow.tape, hgrow.output, by simp [World.setCell]; omega, fun b hb => ?_⟩
      rw [Below.heap_setCell _ _ _ _ hb.2.1, hgrow.block b (by simp; omega) hb.2.2]
      exact Below.heap_alloc w _ b hb.1
  · go_enter Tryz.func215, Tryz.ntmps215
    go_wp2
    go_end0
    have hk : keepL l f u = l := by simp [keepL]; omega
    refine ⟨rfl, v, hv, by rw [hk]; exact hown, .inl rfl, rfl, rfl, rfl, Nat.le_refl _, fun _ _ => rfl⟩
end Go.Proofs.YtkbilipgidcgeaaGreatDoor
