/- Two maps of slices of ints that lie apart. -/
import Derived.Maps.GroupsBeside
import Derived.IntWalk
import Derived.Test.YtkbilipgidcgeaaGreatDoorH21
set_option linter.unusedVariables false
set_option linter.unusedSimpArgs false
namespace Go.Proofs.YtkbilipgidcgeaaGreatDoor
open Go.RowKit Go.Maps Go.WideElems Go.MapKept Go.ChangeMaps Go.ChangeShapes

def Own (w : World) (b g : Nat) : Prop := ∃ es c, w.heap[b]? = some (.map es c) ∧ ∃ x ∈ es.toList, x.val.ownBlock = some g
abbrev Gr (w : World) (base b n : Nat) (D : DataW Unit) : Prop := w.ownsGroups Tryz.prog 3 base 3 .i64 b n D

def itemsI : DataW Unit → List Int
  | .slice es _ => es.filterMap fun | .lit (.int _ z) => some z | _ => none
  | _ => []

theorem items_lits (zs : List Int) : itemsI (.slice (lits .i64 zs) []) = zs := by
  show List.filterMap _ (List.map _ zs) = zs
  induction zs with
  | nil => rfl
  | cons z zs ih => rw [List.map_cons, List.filterMap_cons]; simp only [ih]

theorem items_row {w : World} {base : Nat} {v : Value} {zs : List Int} (h : w.ownsInts base 3 .i64 v zs) : itemsI (rowDatum .i64 v zs) = zs := by
  rcases h.datum (H := Unit) with ⟨h1, h2⟩ | h1
  · rw [h1, h2]; rfl
  · rw [h1]; exact items_lits zs

theorem Gr.lt {w : World} {base b n : Nat} {D : DataW Unit} (h : Gr w base b n D) : b < w.heap.size := by
  obtain ⟨es, c, hb, _⟩ := h
  exact lt_of_block hb
theorem Gr.up {w : World} {base b n n' : Nat} {D : DataW Unit} (h : Gr w base b n D) (hn : n ≤ n') : Gr w base b n' D := by
  obtain ⟨es, c, hb, F, hs, hD, hbb, hlen, hap⟩ := h
  exact ⟨es, c, hb, F, Nat.le_trans hs hn, hD, hbb, fun x hx zs ho => Nat.le_trans (hlen x hx zs ho) hn, hap⟩
theorem Gr.base {w : World} {base b n : Nat} {D : DataW Unit} (h : Gr w base b n D) : b < base := by
  obtain ⟨es, c, hb, F, hs, hD, hbb, _⟩ := h
  exact hbb
theorem Gr.row {w : World} {base b n : Nat} {D : DataW Unit} (h : Gr w base b n D) {g : Nat} (hg : Own w b g) : base ≤ g ∧ g < w.heap.size := by
  obtain ⟨es, c, hb, F, hs, hD, hbb, hlen, hap⟩ := h
  obtain ⟨es', c', hb', x, hx, hxg⟩ := hg
  obtain ⟨rfl, rfl⟩ : es' = es ∧ c' = c := by rw [hb'] at hb; simpa using hb
  obtain ⟨y, hy⟩ := F.reads x hx
  obtain ⟨z, hz, _⟩ := rd_val hy
  obtain ⟨zs, ho, _⟩ := rowElem_inv hz
  exact ho.1.lt g hxg
theorem Gr.isMap {w : World} {base b n : Nat} {D : DataW Unit} (h : Gr w base b n D) : IsMap D := by
  obtain ⟨es, c, hb, F, hs, hD, _⟩ := h
  exact ⟨_, hD⟩
theorem Own.same {w w' : World} {b g : Nat} (hb : w'.heap[b]? = w.heap[b]?) (h : Own w' b g) : Own w b g := by
  obtain ⟨es, c, h1, h2⟩ := h
  exact ⟨es, c, hb ▸ h1, h2⟩

/-- Two maps of slices: what they hold for each number. -/
structure Grp (w : World) (bl bh base n : Nat) (L H : Int → List Int) : Prop where
  lows : ∃ D, Gr w base bl n D ∧ ∀ r, itemsI (D.atKey (.int .i64 r) .nil) = L r
  highs : ∃ D, Gr w base bh n D ∧ ∀ r, itemsI (D.atKey (.int .i64 r) .nil) = H r
  apart : ∀ g, Own w bl g → Own w bh g → False
  ne : bl ≠ bh
  base : base ≤ w.heap.size

theorem Grp.swap {w : World} {bl bh base n : Nat} {L H : Int → List Int} (h : Grp w bl bh base n L H) : Grp w bh bl base n H L :=
  ⟨h.highs, h.lows, fun g a b => h.apart g b a, h.ne.symm, h.base⟩

theorem Grp.kept {w w' : World} {bl bh base n : Nat} {L H : Int → List Int} {row : Option Nat} (h : Grp w bl bh base n L H) (hg : w.grownBy w' row) (hrow : ∀ j, row = some j → j < base ∧ j ≠ bl ∧ j ≠ bh) : Grp w' bl bh base n L H := by
  obtain ⟨D1, g1, i1⟩ := h.lows
  obtain ⟨D2, g2, i2⟩ := h.highs
  have n1 : some bl ≠ row := fun e => (hrow bl e.symm).2.1 rfl
  have n2 : some bh ≠ row := fun e => (hrow bh e.symm).2.2 rfl
  exact ⟨⟨D1, g1.kept hg n1 (g1.rowsAbove (fun j e => (hrow j e).1)), i1⟩, ⟨D2, g2.kept hg n2 (g2.rowsAbove (fun j e => (hrow j e).1)), i2⟩,
    fun g a b => h.apart g (a.same (hg.block _ g1.lt n1)) (b.same (hg.block _ g2.lt n2)), h.ne, Nat.le_trans h.base hg.size⟩

theorem grown_below {w w' : World} (h : Below w.heap.size w w') : w.grownBy w' none := ⟨h.os, h.tape, h.output, h.size, fun k hk _ => h.block k hk⟩
theorem grown_only {w w' : World} {b : Nat} (h : Only (· = b) w w') : w.grownBy w' (some b) := ⟨h.os, h.tape, h.output, h.size, fun k hk hn => h.block k hk (fun e => hn (by rw [e]))⟩

theorem Grp.below {w w' : World} {bl bh base n : Nat} {L H : Int → List Int} (h : Grp w bl bh base n L H) (hb : Below w.heap.size w w') : Grp w' bl bh base n L H :=
  h.kept (grown_below hb) (fun j e => by cases e)

theorem SetAt.up {w : World} {b n n' : Nat} {S : Int → Prop} (h : SetAt w b n S) (hn : n ≤ n') : SetAt w b n' S := by
  obtain ⟨D, ⟨es, c, hb, F, hs, hD⟩, hS⟩ := h
  exact ⟨D, ⟨es, c, hb, F, Nat.le_trans hs hn, hD⟩, hS⟩
theorem Grp.up {w : World} {bl bh base n n' : Nat} {L H : Int → List Int} (h : Grp w bl bh base n L H) (hn : n ≤ n') : Grp w bl bh base n' L H := by
  obtain ⟨⟨D1, g1, i1⟩, ⟨D2, g2, i2⟩, ha, hne, hB⟩ := h
  exact ⟨⟨D1, g1.up hn, i1⟩, ⟨D2, g2.up hn, i2⟩, ha, hne, hB⟩
theorem Grp.same {w : World} {bl bh base n : Nat} {L H L' H' : Int → List Int} (h : Grp w bl bh base n L H) (hL : ∀ r, L r = L' r) (hH : ∀ r, H r = H' r) : Grp w bl bh base n L' H' := by
  obtain ⟨⟨D1, g1, i1⟩, ⟨D2, g2, i2⟩, ha, hne, hB⟩ := h
  exact ⟨⟨D1, g1, fun r => (i1 r).trans (hL r)⟩, ⟨D2, g2, fun r => (i2 r).trans (hH r)⟩, ha, hne, hB⟩

/-- What a look-up in such a map hands over, as it stays while memory is made. -/
def LookR (base b n : Nat) (D : DataW Unit) (r : Int) (No : Nat → Prop) (u : Value) (w : World) : Prop :=
  ∃ zs, D.atKey (.int .i64 r) .nil = rowDatum .i64 u zs ∧ w.ownsInts base 3 .i64 u zs ∧ zs.length ≤ n ∧ w.groupBack Tryz.prog 185 3 base 3 .i64 b n D (.int .i64 r) (.int .i64 r) u ∧ ∀ g, u.ownBlock = some g → ¬ No g

theorem LookR.below {base b n : Nat} {D : DataW Unit} {r : Int} {No : Nat → Prop} {u : Value} {w w' : World} (hb : Below w.heap.size w w') (h : LookR base b n D r No u w) : LookR base b n D r No u w' := by
  obtain ⟨zs, h1, h2, h3, h4, h5⟩ := h
  have hg := grown_below hb
  refine ⟨zs, h1, h2.kept hg ?_, h3, ?_, h5⟩
  · cases u.ownBlock <;> simp
  · intro w1 v' zs' hgr ho hl hloc
    refine h4 w1 v' zs' ⟨hgr.os.trans hg.os, hgr.tape.trans hg.tape, hgr.output.trans hg.output, Nat.le_trans hg.size hgr.size, fun k hk hne => (hgr.block k (Nat.lt_of_lt_of_le hk hg.size) hne).trans (hg.block k hk (by simp))⟩ ho hl ?_
    rcases hloc with h | ⟨g, h, hge⟩
    · exact .inl h
    · exact .inr ⟨g, h, Nat.le_trans hb.size hge⟩

theorem zero_ints (w : World) : (zeroValue 31).run Tryz.prog w = .ok (.slice none 0 0) w := by kernel_rfl

theorem look_run {w : World} {base b n : Nat} {D : DataW Unit} {r : Int} {No : Nat → Prop} (h : Gr w base b n D) (hn : n < 1000000) (hw : (Lit.int .i64 r).wf = true) (hno : ∀ g, Own w b g → ¬ No g) :
    ∃ u, (Instr.lookup 185 (.map (some b)) (.int .i64 r) false).run Tryz.prog w = .ok u w ∧ LookR base b n D r No u w := by
  have hkey := keyOf_int_mk Tryz.underlying3 hw
  obtain ⟨v, zs, hrun, hat, hoi, hzl, hback⟩ := World.ownsGroups.at h int_key Tryz.underlying185 (zero_ints w) (by unfold maxLen; omega) hkey
  refine ⟨v, hrun, zs, hat, hoi, hzl, hback, fun g hg hN => ?_⟩
  obtain ⟨es, clock, hb, F, _⟩ := h
  rcases Maps.fit_look false int_key Tryz.underlying185 (zero_ints w) hb F hkey with ⟨hrun', _, _⟩ | ⟨e0, y, hm0, _, hrun', _, _, _⟩
  · rw [hrun] at hrun'
    obtain rfl : v = .slice none 0 0 := by simpa using hrun'
    cases hg
  · rw [hrun] at hrun'
    obtain rfl : v = e0.val := by simpa using hrun'
    exact hno g ⟨es, clock, hb, e0, hm0, hg⟩ hN

/-- Behind 'm[r] = append(m[r], x)'. -/
theorem Grp.put {w w1 w2 : World} {bl bh base n : Nat} {L H : Int → List Int} {D : DataW Unit} {r x : Int} {u v' : Value} {zs : List Int} (h : Grp w bl bh base n L H) (hG : Gr w base bl n D) (hL : ∀ r, itemsI (D.atKey (.int .i64 r) .nil) = L r)
    (hat : D.atKey (.int .i64 r) .nil = rowDatum .i64 u zs) (hoi : w.ownsInts base 3 .i64 u zs) (hg1 : w.grownBy w1 u.ownBlock) (hno : ∀ g, u.ownBlock = some g → ¬ Own w bh g)
    (hoi1 : w1.ownsInts base 3 .i64 v' (zs ++ [x])) (hown2 : Gr w2 base bl (n + 1) (D.put (.int .i64 r) (rowDatum .i64 v' (zs ++ [x])))) (hg2 : w1.grownBy w2 (some bl)) (hsh : ∀ g, Own w2 bl g → ¬ Own w bh g) :
    Grp w2 bl bh base (n + 1) (fun k => if k = r then L k ++ [x] else L k) H := by
  obtain ⟨D2, g2, i2⟩ := h.highs
  have nrow : some bh ≠ u.ownBlock := fun e => by
    have := (hoi.1.lt bh e.symm).1
    have := g2.base
    omega
  have nbl : some bh ≠ some bl := fun e => h.ne (Option.some.inj e).symm
  have k1 : Gr w1 base bh n D2 := g2.kept hg1 nrow (fun es clock hb y hy => by
    cases hy' : y.val.ownBlock with
    | none => exact .inl rfl
    | some g => exact .inr (fun e => hno g e.symm ⟨es, clock, hb, y, hy, hy'⟩))
  have k2 : Gr w2 base bh n D2 := k1.kept hg2 nbl (k1.rowsAbove (fun j e => by cases e; exact hG.base))
  have hbh : w2.heap[bh]? = w.heap[bh]? := (hg2.block bh k1.lt nbl).trans (hg1.block bh g2.lt nrow)
  refine ⟨⟨_, hown2, fun k => ?_⟩, ⟨D2, k2.up (Nat.le_succ n), i2⟩, fun g a b => hsh g a (b.same hbh), h.ne, Nat.le_trans h.base (Nat.le_trans hg1.size hg2.size)⟩
  by_cases e : k = r
  · subst e
    rw [if_pos rfl, atKey_put_same hG.isMap (show WideAt.IsKeyLit (.int .i64 k) from trivial), items_row hoi1, ← hL k, hat, items_row hoi]
  · rw [if_neg e, atKey_put_other (by intro h; injection h with _ h; exact e h), hL k]

/-- The blocks of cells stay, those of ints aside. -/
def KeepsI (w w' : World) : Prop := w.heap.size ≤ w'.heap.size ∧ ∀ (b : Nat) (cs : Array Value) (t : TypeId) (fr : Nat × Nat), w.heap[b]? = some (Obj.cells cs t fr) → t ≠ 3 → w'.heap[b]? = some (Obj.cells cs t fr)
theorem KeepsI.trans {w w1 w2 : World} (h : KeepsI w w1) (k : KeepsI w1 w2) : KeepsI w w2 := ⟨Nat.le_trans h.1 k.1, fun b cs t fr hb ht => k.2 b cs t fr (h.2 b cs t fr hb ht) ht⟩
theorem KeepsI.below {w w' : World} (h : Below w.heap.size w w') : KeepsI w w' := ⟨h.size, fun b cs t fr hb _ => (h.block b (lt_of_block hb)).trans hb⟩
theorem KeepsI.row {w w1 : World} {base : Nat} {u : Value} {zs : List Int} (hoi : w.ownsInts base 3 .i64 u zs) (hg : w.grownBy w1 u.ownBlock) : KeepsI w w1 := by
  refine ⟨hg.size, fun b cs t fr hb ht => (hg.block b (lt_of_block hb) (fun e => ?_)).trans hb⟩
  rcases hoi.1.2 with ⟨rfl, _⟩ | ⟨g, cap, cur, rfl, _, hh, _⟩
  · cases e
  · have e' : b = g := Option.some.inj e
    subst e'
    rw [hh] at hb
    simp only [Option.some.injEq, Obj.cells.injEq] at hb
    exact ht hb.2.1.symm
theorem KeepsI.map {w w1 : World} {bl : Nat} (hb : ∃ es c, w.heap[bl]? = some (.map es c)) (hg : w.grownBy w1 (some bl)) : KeepsI w w1 := by
  refine ⟨hg.size, fun b cs t fr h _ => (hg.block b (lt_of_block h) (fun e => ?_)).trans h⟩
  obtain ⟨es, c, hm⟩ := hb
  have e' : b = bl := Option.some.inj e
  subst e'
  rw [hm] at h
  cases h


set_option maxRecDepth 100000 in
theorem entry_one {R : Value → Option (DataW Unit × List MemPlace)} {es : Array MapEntry} {clock : Nat} (F : Fit Tryz.prog 3 R es clock) {x y : MapEntry} (hx : x ∈ es.toList) (hy : y ∈ es.toList) (h : x.key = y.key) : x = y := by
  have hp := fit_apart int_key F
  rw [List.pairwise_map] at hp
  have same : ∀ x ∈ es.toList, ∀ y ∈ es.toList, x.key = y.key → (rg Tryz.prog 3 R x).1 = (rg Tryz.prog 3 R y).1 := fun x hx y hy h => by
    obtain ⟨a, ha⟩ := F.reads x hx
    obtain ⟨b, hb⟩ := F.reads y hy
    have m1 := rd_key ha
    have m2 := rd_key hb
    rw [h, m2] at m1
    rw [rg_of ha, rg_of hb]
    exact (Option.some.inj m1).symm
  obtain ⟨i, hi, rfl⟩ := List.getElem_of_mem hx
  obtain ⟨j, hj, rfl⟩ := List.getElem_of_mem hy
  rcases Nat.lt_trichotomy i j with hlt | heq | hgt
  · exact absurd (same _ hx _ hy h) (List.pairwise_iff_getElem.1 hp i j hi hj hlt)
  · subst heq; rfl
  · exact absurd (same _ hy _ hx h.symm) (List.pairwise_iff_getElem.1 hp j i hj hi hgt)

set_option maxRecDepth 100000 in
theorem look_same {w w' : World} {base b n : Nat} {D : DataW Unit} {r : Int} {u : Value} (h : Gr w base b n D) (hw : (Lit.int .i64 r).wf = true) (hb : w'.heap[b]? = w.heap[b]?) (hrun : (Instr.lookup 185 (.map (some b)) (.int .i64 r) false).run Tryz.prog w = .ok u w) :
    (Instr.lookup 185 (.map (some b)) (.int .i64 r) false).run Tryz.prog w' = .ok u w' := by
  have hkey := keyOf_int_mk Tryz.underlying3 hw
  obtain ⟨es, clock, hbw, F, _⟩ := h
  rcases Maps.fit_look false int_key Tryz.underlying185 (zero_ints w) hbw F hkey with ⟨h1, h2, _⟩ | ⟨e0, y, hm0, hk0, h1, _, _, _⟩ <;>
  rcases Maps.fit_look false int_key Tryz.underlying185 (zero_ints w') (hb.trans hbw) F hkey with ⟨h1', h2', _⟩ | ⟨e0', y', hm0', hk0', h1', _, _, _⟩
  · rw [hrun] at h1
    obtain rfl : u = .slice none 0 0 := by simpa using h1
    simpa using h1'
  · exact absurd hk0' (h2 e0' hm0')
  · exact absurd hk0 (h2' e0 hm0)
  · rw [hrun] at h1
    obtain rfl : u = e0.val := by simpa using h1
    rw [h1', entry_one F hm0 hm0' (hk0.trans hk0'.symm)]
    rfl

theorem Gr.owned {w : World} {base b n : Nat} {D : DataW Unit} (h : Gr w base b n D) {g : Nat} (hg : Own w b g) : ∃ cs fr, w.heap[g]? = some (Obj.cells cs 3 fr) := by
  obtain ⟨es, c, hb, F, hs, hD, hbb, hlen, hap⟩ := h
  obtain ⟨es', c', hb', x, hx, hxg⟩ := hg
  obtain ⟨rfl, rfl⟩ : es' = es ∧ c' = c := by rw [hb'] at hb; simpa using hb
  obtain ⟨y, hy⟩ := F.reads x hx
  obtain ⟨z, hz, _⟩ := rd_val hy
  obtain ⟨zs, ho, _⟩ := rowElem_inv hz
  rcases ho.1.2 with ⟨e, _⟩ | ⟨g', cap, cur, e, _, hh, _⟩
  · rw [e] at hxg; cases hxg
  · rw [e] at hxg
    have e' : g' = g := Option.some.inj hxg
    subst e'
    exact ⟨_, _, hh⟩
end Go.Proofs.YtkbilipgidcgeaaGreatDoor
