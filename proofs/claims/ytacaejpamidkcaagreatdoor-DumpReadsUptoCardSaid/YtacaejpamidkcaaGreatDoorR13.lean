/- graph: the finder at one node without arcs. -/
import Derived.Test.YtacaejpamidkcaaGreatDoorR12
set_option linter.unusedVariables false
set_option linter.unusedSimpArgs false
namespace Go.Proofs.YtacaejpamidkcaaGreatDoor
section
open Go.RowKit
attribute [local go_sem] ak_ af_ aq_ be_ bf_ bg_ a6_ a7_ a8_
def sl (n : Nat) (b : Nat) : Value := .slice (some ⟨b, 0, none⟩) n n
def pt (b : Nat) : Value := .pointer (some ⟨b, 0, none⟩)
theorem ai_ {w w' : World} {base : Nat} {e : TypeId} {size : Nat} {v : Value} {n : Nat} {xs : List Value} (h : w.ownsRow base e size v n xs) (hb : Below w.heap.size w w') : w'.ownsRow base e size v n xs := by
 refine ⟨h.1, ?_⟩
 rcases h.2 with h0 | ⟨g, cap, cur, h1, h2, h3, h4⟩
 · exact .inl h0
 · exact .inr ⟨g, cap, cur, h1, h2, at_b hb h3, h4⟩
theorem ap_ {w : World} {base base' : Nat} {e : TypeId} {size : Nat} {v : Value} {n : Nat} {xs : List Value} (h : w.ownsRow base e size v n xs) (hb : base' ≤ base) : w.ownsRow base' e size v n xs := by
 refine ⟨h.1, ?_⟩
 rcases h.2 with h0 | ⟨g, cap, cur, h1, h2, h3⟩
 · exact .inl h0
 · exact .inr ⟨g, cap, cur, h1, by omega, h3⟩
theorem am_ {w : World} {b c : Nat} {l m : Array Value} {t u : TypeId} {f g : Nat × Nat} (h : w.heap[b]? = some (.cells l t f)) (k : w.heap[c]? = some (.cells m u g)) (ht : t ≠ u) : b ≠ c := fun e => by
 subst e; rw [h] at k; simp at k; exact ht k.2.1
theorem b6_ {w : World} {base : Nat} {e : TypeId} {size : Nat} {v : Value} {n : Nat} {xs : List Value} (h : w.ownsRow base e size v n xs) (a : Addr) (u : Value) (hne : v.ownBlock ≠ some a.block) : (w.setCell a u).ownsRow base e size v n xs := by
 refine ⟨h.1, ?_⟩
 rcases h.2 with h0 | ⟨g, cap, cur, h1, h2, h3, h4⟩
 · exact .inl h0
 · exact .inr ⟨g, cap, cur, h1, h2, ay_ h3 a u (fun e => hne (by rw [h1, e]; rfl)), h4⟩
theorem da_ {P : Program} {fn : Func} {p : Tmp} {ty : TypeId} (h : fn.results = #[.cell p ty]) (tmps : Array Value) (w : World) (g : Nat) (t : TypeId) (cs : Array Value) (fr : Nat × Nat) (d : TypeDesc)
 (hp : tmps.getD p undef = .pointer (some ⟨g, 0, none⟩)) (hg : w.heap[g]? = some (.cells cs t fr))
 (hu : P.underlying ty = some d) (hd : (match d with | .struct _ | .array _ _ => true | _ => false) = true) (hi : (P.info? ty).map (·.size) = some cs.size) :
 (results fn tmps).run P w = .ok (.agg cs) w := by
 have hp' : tmps[p]?.getD undef = .pointer (some ⟨g, 0, none⟩) := by simpa using hp
 simp [results, h, hp', asAddr, run_loadVar_row w g t ty cs fr d hg hu hd hi]
theorem bx_ {w : World} {base : Nat} {e : TypeId} {g cap : Nat} {u : Value} (h : w.ownsRow base e 1 (.slice (some ⟨g, 0, none⟩) 1 cap) 1 [u]) : w.cell? ⟨g, 0, none⟩ = some u := by
 rcases h.2 with ⟨h0, _⟩ | ⟨g', cap', cur, h1, h2, h3, h4, h5, h6, h7⟩
 · cases h0
 · simp only [Value.slice.injEq, Option.some.injEq, Addr.mk.injEq, and_true, true_and] at h1
   obtain ⟨rfl, rfl⟩ := h1
   have : cur[0]? = some u := by
    have : (cur.toList.take 1)[0]? = some u := by simp only [Nat.one_mul] at h7; rw [h7]; rfl
    simpa using this
   exact al_ h3 0 this
theorem ah_ {w : World} {base : Nat} {e : TypeId} {size g cap : Nat} {n : Nat} {xs : List Value} (h : w.ownsRow base e size (.slice (some ⟨g, 0, none⟩) n cap) n xs) : base ≤ g ∧ g < w.heap.size ∧ ∃ cur, w.heap[g]? = some (.cells cur e (0, 0)) := by
 rcases h.2 with ⟨h0, _⟩ | ⟨g', cap', cur, h1, h2, h3, h4⟩
 · cases h0
 · simp only [Value.slice.injEq, Option.some.injEq, Addr.mk.injEq, and_true, true_and] at h1
   obtain ⟨rfl, rfl⟩ := h1
   exact ⟨h2, lt_of_block h3, cur, h3⟩
section
variable {P : Program}
theorem g2_ {w : World} (t ty e : TypeId) (z : Value) (size bytes : Nat) (ht : P.underlying t = some (.slice e)) (hinfo : (P.info? e).map (fun i => (i.zero, i.size, i.bytes)) = some (some z, size, bytes))
 (hzs : z.cells.size = size) (hsz : 0 < size) (b c : Nat) (l : List Value) (hb : w.heap[b]? = some (.cells l.toArray e (0, 0))) (hl : l.length = size) (h1 : ∀ u ∈ l, u.oneCell' = true) (hby : bytes ≤ 140737488355328) :
 ∃ cap w', (Builtin.append_ #[t, t] ty #[.slice none 0 0, .slice (some ⟨b, 0, none⟩) 1 c]).run P w = .ok (.slice (some ⟨w.heap.size, 0, none⟩) 1 cap) w' ∧
  w'.ownsRow w.heap.size e size (.slice (some ⟨w.heap.size, 0, none⟩) 1 cap) 1 l ∧ Below w.heap.size w w' := by
 obtain ⟨i, hi, hzz⟩ := Option.map_eq_some_iff.1 hinfo
 simp only [Prod.mk.injEq] at hzz
 obtain ⟨hz, hs, hbb⟩ := hzz
 obtain ⟨g, cap, w', hr, ho, hg, hor, hlt⟩ := run_append_lies (P := P) w t ty w.heap.size e i z size bytes ht hi hz hs hbb hzs hsz (.slice none 0 0) 0 [] (World.ownsRow_nil _ _ _ _) ⟨b, 0, none⟩ 1 c l (by omega)
  (World.news_of_block hb) h1 (by omega) (by simp [maxLen]) (by omega) (Nat.le_refl _) w.heap.size rfl
 have : g = w.heap.size := by rcases hor with h | h; simp [Value.ownBlock] at h; exact h
 subst this
 exact ⟨cap, w', hr, by simpa using ho, ⟨hg.os, hg.tape, hg.output, hg.size, fun k hk => hg.block k hk (by simp [Value.ownBlock])⟩⟩
theorem ca_ {o : Oper} {a : Act} {w : World} {K : Value → World → Prop} (s x : Tmp) (t e : TypeId) (z : Value) (size bytes : Nat)
 (ho : o.op = .call { callee := .builtin .append, args := #[.tmp s, .tmp x], argTypes := #[t, t] }) (ht : P.underlying t = some (.slice e)) (hinfo : (P.info? e).map (fun i => (i.zero, i.size, i.bytes)) = some (some z, size, bytes))
 (hzs : z.cells.size = size) (hsz : 0 < size) (b c : Nat) (l : List Value) (hs : a.tmps[s]?.getD undef = .slice none 0 0) (hx : a.tmps[x]?.getD undef = .slice (some ⟨b, 0, none⟩) 1 c)
 (hb : w.heap[b]? = some (.cells l.toArray e (0, 0))) (hl : l.length = size) (h1 : ∀ u ∈ l, u.oneCell' = true) (hby : bytes ≤ 140737488355328)
 (h : ∀ cap w', w'.ownsRow w.heap.size e size (.slice (some ⟨w.heap.size, 0, none⟩) 1 cap) 1 l → Below w.heap.size w w' → K (.slice (some ⟨w.heap.size, 0, none⟩) 1 cap) w') : e7_ P o a w K := by
 obtain ⟨cap, w', hr, hown, hb'⟩ := g2_ (P := P) t o.type e z size bytes ht hinfo hzs hsz b c l hb hl h1 hby
 exact av_ (by simp [execOp, ho, resolve, invoke, builtin, Act.eval, hs, hx, hr, Result.andThen]) hb' (h cap w' hown hb')
theorem d1_ {ops : Array Oper} {rest : List Oper} {o : Oper} {a : Act} {w : World} {Q : Exit → Act → World → Prop} (hgd : o.guard = none) (s x : Operand) (t e : TypeId) (z : Value) (size bytes : Nat)
 (ho : o.op = .call { callee := .builtin .append, args := #[s, x], argTypes := #[t, t] }) (ht : P.underlying t = some (.slice e)) (hinfo : (P.info? e).map (fun i => (i.zero, i.size, i.bytes)) = some (some z, size, bytes))
 (hzs : z.cells.size = size) (hsz : 0 < size) (b c : Nat) (l : List Value) (hs : a.eval s = .slice none 0 0) (hx : a.eval x = .slice (some ⟨b, 0, none⟩) 1 c)
 (hb : w.heap[b]? = some (.cells l.toArray e (0, 0))) (hl : l.length = size) (h1 : ∀ u ∈ l, u.oneCell' = true) (hby : bytes ≤ 140737488355328) (H : Nat) (hH : w.heap.size = H)
 (h : ∀ cap w', w'.ownsRow H e size (.slice (some ⟨H, 0, none⟩) 1 cap) 1 l → Below H w w' → wpList P ops Q rest (a.put o.dst (.slice (some ⟨H, 0, none⟩) 1 cap)) w') : wpList P ops Q (o :: rest) a w := by
 subst hH
 obtain ⟨cap, w', hr, hown, hb'⟩ := g2_ (P := P) t o.type e z size bytes ht hinfo hzs hsz b c l hb hl h1 hby
 refine wpList_plain hgd fun _ hK => ?_
 unfold Oper.wp
 simp [execOp, ho, resolve, invoke, builtin, hs, hx, hr, Result.andThen]
 exact hK _ _ (h cap w' hown hb')
end
end
end Go.Proofs.YtacaejpamidkcaaGreatDoor
