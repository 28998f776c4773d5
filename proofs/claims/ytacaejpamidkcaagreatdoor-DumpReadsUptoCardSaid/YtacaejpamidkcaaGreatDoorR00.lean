/- Plain lemmas on integers and bytes, no program in sight. Worlds that only grew: a class for regions that draw their order and whose calls make memory. No program in sight. Regions that draw their order and whose operations only make memory (in whatever order), ahead of a tail in one forced order. No program in sight. Regions that draw their order: what each slot holds, as a list of facts. No program in sight. -/
import Derived.WalkKit
import Derived.BigQuiet
set_option linter.unusedVariables false
set_option linter.unusedSimpArgs false
namespace Go.Proofs.YtacaejpamidkcaaGreatDoor
section
open Go.RowKit
theorem q9_ (n to : Int) (h : 1 ≤ to) : (n.tmod to < 0 → n % to = n.tmod to + to) ∧ (0 ≤ n.tmod to → n % to = n.tmod to) := by
 by_cases hn : 0 ≤ n
 · have e := Int.tmod_eq_emod_of_nonneg (b := to) hn
   have := Int.emod_nonneg n (show to ≠ 0 by omega)
   exact ⟨fun h => by omega, fun _ => e.symm⟩
 · have e : n.tmod to = -((-n) % to) := by
    rw [← Int.tmod_eq_emod_of_nonneg (by omega : 0 ≤ -n), Int.neg_tmod, Int.neg_neg]
   have h0 := Int.emod_nonneg (-n) (show to ≠ 0 by omega)
   have h1 := Int.emod_lt_of_pos (-n) (show 0 < to by omega)
   have hd := Int.mul_ediv_add_emod (-n) to
   constructor
   · intro hlt
     have : n = (to + n.tmod to) + to * (-((-n) / to) - 1) := by
      rw [Int.mul_sub, Int.mul_neg]; omega
     rw [this, Int.add_mul_emod_self_left, Int.emod_eq_of_lt (by omega) (by omega)]
     rw [← this]; omega
   · intro hge
     have hz : n.tmod to = 0 := by omega
     have : n = 0 + to * (-((-n) / to)) := by rw [Int.mul_neg]; omega
     rw [this, Int.add_mul_emod_self_left]
     rw [← this, hz]; simp
end
section
open Go.RowKit
structure More where
 more : Array Obj
 drawn : Nat
instance : Inhabited More := ⟨⟨#[], 0⟩⟩
def ext (w : World) (k : More) : World := { w with heap := w.heap ++ k.more, drawn := k.drawn }
theorem hc_ (w : World) (k : More) : (ext w k).heap.size = w.heap.size + k.more.size := by simp [ext]
theorem ga_ (w : World) (k : More) (i : Nat) (h : i < w.heap.size) : (ext w k).heap[i]? = w.heap[i]? := by
 simp only [ext]; rw [Array.getElem?_append_left h]
theorem cr_ (w : World) (k : More) : Below w.heap.size w (ext w k) :=
 ⟨rfl, rfl, rfl, by rw [hc_]; omega, fun i h => ga_ w k i h⟩
theorem l9_ {w w' : World} (h : Below w.heap.size w w') : ∃ k, w' = ext w k := by
 refine ⟨⟨w'.heap.extract w.heap.size w'.heap.size, w'.drawn⟩, ?_⟩
 obtain ⟨h1, h2, h3, h4, h5⟩ := h
 cases w' with
 | mk heap tape drawn os output =>
  simp only [ext] at *
  subst h1 h2 h3
  congr 1
  apply Array.ext
  · simp; omega
  · intro i hi hi'
    by_cases hlt : i < w.heap.size
    · have := h5 i hlt
      rw [Array.getElem?_eq_getElem hi, Array.getElem?_eq_getElem hlt] at this
      rw [Array.getElem_append_left hlt]
      exact Option.some.inj this
    · rw [Array.getElem_append_right (by omega), Array.getElem_extract]
      congr 1; omega
theorem ak_ (w : World) (k : More) (b o : Nat) (s : Option Nat) (h : b < w.heap.size) : (ext w k).cell? ⟨b, o, s⟩ = w.cell? ⟨b, o, s⟩ :=
 World.cell?_of_block (ga_ w k b h)
theorem af_ (w : World) (k : More) (b o : Nat) (s : Option Nat) (h : b < w.heap.size) : (ext w k).frozen? ⟨b, o, s⟩ = w.frozen? ⟨b, o, s⟩ :=
 World.frozen?_of_block (ga_ w k b h)
theorem i5_ (w : World) (k : More) (b : Nat) (h : b < w.heap.size) : (ext w k).heap[b]? = w.heap[b]? := ga_ w k b h
theorem hd_ {W w1 : World} (hb : Below W.heap.size W w1) : (∀ b o, b < W.heap.size → w1.cell? ⟨b, o, none⟩ = W.cell? ⟨b, o, none⟩) ∧ (∀ b o, b < W.heap.size → w1.frozen? ⟨b, o, none⟩ = W.frozen? ⟨b, o, none⟩) :=
 ⟨fun b o h => hb.cell (p := ⟨b, o, none⟩) h, fun b o h => hb.frozen (p := ⟨b, o, none⟩) h⟩
theorem b9_ {w w1 : World} {o : Obj} (h : Below (w.alloc o).heap.size (w.alloc o) w1) : w1.heap[w.heap.size]? = some o :=
 (h.block _ (by simp)).trans (heap_alloc_new w o)
theorem al_ {w : World} {b : Nat} {arr : Array Value} {t : TypeId} {fr : Nat × Nat} (h : w.heap[b]? = some (.cells arr t fr)) (i : Nat) {v : Value} (hv : arr[i]? = some v) : w.cell? ⟨b, i, none⟩ = some v := by
 simp [World.cell?, h, hv]
theorem ag_ {w : World} {b : Nat} {arr : Array Value} {t : TypeId} (h : w.heap[b]? = some (.cells arr t (0, 0))) (i : Nat) : w.frozen? ⟨b, i, none⟩ = false := by
 simp [World.frozen?, h]
section
variable {P : Program}
theorem c5_ {f : FuncId} {args : Array Value} {w : World} {n : More} {v : Value}
 (h : Calls P f args (ext w n) fun e w' => e = .returned v ∧ Below (ext w n).heap.size (ext w n) w') : Calls P f args (ext w n) fun e w'' => e = .returned v ∧ ∃ m, w'' = ext w m :=
 h.mono fun _ w' ⟨he, hb⟩ => ⟨he, l9_ ((cr_ w n).trans (hb.mono (by rw [hc_]; omega)))⟩
theorem co_ {id : Nat} {Q : Exit → Act → World → Prop} {a : Act} {w : World} {l : List Oper} (hm : P.follows .mixedOrders = true) (hB : Region.lexB .any l.toArray = true)
 (h : wpQuiet P l.toArray (fun w' => ∃ k, w' = ext w k) (fun a' => ∀ w', (∃ k, w' = ext w k) → Q .normal a' w') l a) : (Code.region id l.toArray true).wp P Q a w :=
 wp_region_quiet (C := fun w' => ∃ k, w' = ext w k) hm hB ⟨⟨#[], w.drawn + 1⟩, by simp [ext]⟩ (by simpa using h)
theorem bn_ {ops : Array Oper} {C : World → Prop} {Q : Exit → Act → World → Prop} {a : Act} {w : World} (h : ∀ w', Below w.heap.size w w' → Q .normal a w') :
 wpQuiet P ops C (fun a' => ∀ w', (∃ k, w' = ext w k) → Q .normal a' w') [] a :=
 wpQuiet_nil fun w' hw => by obtain ⟨k, rfl⟩ := hw; exact h _ (cr_ w k)
end
attribute [local go_sem] ak_ af_
end
section
open Go.RowKit
def dx_ : Value → Option Nat
 | .slice (some a) _ _ => some a.block
 | .pointer (some a) => some a.block
 | .map (some b) => some b
 | _ => none
def iv_ (P : Program) (w : World) (K : Value → World → Prop) : Result Next → Prop
 | .ok (.value v) w' => Below w.heap.size w w' ∧ K v w'
 | .ok (.enter f args) w' => w' = w ∧ Calls P f args w fun e w'' => ∃ v, e = .returned v ∧ Below w.heap.size w w'' ∧ K v w''
 | _ => False
def e7_ (P : Program) (o : Oper) (a : Act) (w : World) (K : Value → World → Prop) : Prop := iv_ P w K ((execOp a.eval o).run P w)
theorem td_ {P : Program} {o : Oper} {a : Act} {w : World} {K : Value → World → Prop} {K' : Act → World → Prop} {Q : Exit → Act → World → Prop}
 (h : e7_ P o a w K) (hK : ∀ v w', Below w.heap.size w w' → K v w' → K' (a.put o.dst v) w') : o.wp P a w K' Q := by
 unfold e7_ at h
 unfold Oper.wp
 generalize (execOp a.eval o).run P w = r at *
 cases r with
 | ok n w' =>
  cases n <;> simp only [iv_] at h <;> simp only [Oper.upon]
  case value u => exact hK _ _ h.1 h.2
  case enter f args =>
   obtain ⟨e1, hc⟩ := h
   rw [e1]
   exact hc.mono fun e w'' ⟨v, he, hb, hk⟩ => by subst he; exact hK _ _ hb hk
 | halt x w' => simp only [iv_] at h
def a1_ (l : List Oper) (i : Nat) : Tmp := ((l[i]?).bind (·.dst)).getD 0
def bl_ (o : Oper) (j : Nat) : Bool := o.after.any fun e => e.on == j && Region.binds .any e
def d7_ (l : List Oper) : Nat → Nat → Nat → Bool
 | 0, _, _ => false
 | f + 1, i, j => match l[i]? with
  | none => false
  | some o => bl_ o j || (List.range i).any fun k => bl_ o k && d7_ l f k j
def growB (l : List Oper) (m n : Nat) (slots : Nat → List Tmp) : Bool :=
 decide (m ≤ l.length) && (List.range l.length).all fun i => match l[i]? with
  | none => false
  | some o => (o.after.all fun e => !Region.binds .any e || decide (e.on < i)) &&
   (if i < m then o.guard.isNone && (o.dst == some (a1_ l i)) && decide (a1_ l i < n) && ((slots i).head? == some (a1_ l i)) && !((slots i).tail.contains (a1_ l i)) &&
     (List.range m).all (fun j => j == i || !((slots i).contains (a1_ l j)) || bl_ o j)
     else if i == m then (List.range i).all (fun j => d7_ l l.length i j) else bl_ o (i - 1))
section
variable {P : Program} {l : List Oper} {m n : Nat} {slots : Nat → List Tmp}
structure GrowOk (l : List Oper) (m n : Nat) (slots : Nat → List Tmp) : Prop where
 le : m ≤ l.length
 low : ∀ (i : Nat) (o : Oper), l[i]? = some o → ∀ e ∈ o.after, Region.binds .any e = true → e.on < i
 guard : ∀ (i : Nat) (o : Oper), i < m → l[i]? = some o → o.guard = none ∧ o.dst = some (a1_ l i) ∧ a1_ l i < n ∧ (slots i).head? = some (a1_ l i) ∧ a1_ l i ∉ (slots i).tail
 apart : ∀ (i : Nat) (o : Oper) (j : Nat), i < m → j < m → l[i]? = some o → j ≠ i → a1_ l j ∈ slots i → bl_ o j = true
 tail0 : ∀ (o : Oper) (j : Nat), j < m → l[m]? = some o → d7_ l l.length m j = true
 tail : ∀ (i : Nat) (o : Oper) (j : Nat), m < i → j < i → l[i]? = some o → j + 1 = i → bl_ o j = true
theorem GrowOk.of (h : growB l m n slots = true) : GrowOk l m n slots := by
 simp only [growB, Bool.and_eq_true, decide_eq_true_eq, List.all_eq_true, List.mem_range] at h
 obtain ⟨h0, h⟩ := h
 have key : ∀ i o, l[i]? = some o → (o.after.all fun e => !Region.binds .any e || decide (e.on < i)) = true ∧
  (if i < m then o.guard.isNone && (o.dst == some (a1_ l i)) && decide (a1_ l i < n) && ((slots i).head? == some (a1_ l i)) && !((slots i).tail.contains (a1_ l i)) &&
    (List.range m).all (fun j => j == i || !((slots i).contains (a1_ l j)) || bl_ o j)
    else if i == m then (List.range i).all (fun j => d7_ l l.length i j) else bl_ o (i - 1)) = true := fun i o ho => by
  have hi : i < l.length := (List.getElem?_eq_some_iff.1 ho).1
  have := h i hi
  rw [ho] at this
  simpa using this
 refine ⟨h0, fun i o ho e he hbd => ?_, fun i o hi ho => ?_, fun i o j hi hj ho hne hm => ?_, fun o j hj ho => ?_, fun i o j hi hj ho hor => ?_⟩
 · have := (key i o ho).1
   rw [Array.all_eq_true_iff_forall_mem] at this
   have := this e he
   simp only [hbd, Bool.not_true, Bool.false_or, decide_eq_true_eq] at this
   exact this
 · have := (key i o ho).2
   simp only [hi, if_true, Bool.and_eq_true, Option.isNone_iff_eq_none, beq_iff_eq, decide_eq_true_eq] at this
   exact ⟨this.1.1.1.1.1, this.1.1.1.1.2, this.1.1.1.2, this.1.1.2, by simpa using this.1.2⟩
 · have := (key i o ho).2
   simp only [hi, if_true, Bool.and_eq_true, List.all_eq_true, List.mem_range, Bool.or_eq_true, beq_iff_eq, Bool.not_eq_true', List.contains_eq_mem, decide_eq_false_iff_not] at this
   rcases this.2 j hj with (h1 | h1) | h1
   · exact absurd h1 hne
   · exact absurd hm h1
   · exact h1
 · have := (key m o ho).2
   simp only [show ¬ m < m by omega, if_false, beq_self_eq_true, if_true, List.all_eq_true, List.mem_range] at this
   exact this j hj
 · have := (key i o ho).2
   have hne : (i == m) = false := by simp; omega
   simp only [show ¬ i < m by omega, if_false, hne, Bool.false_eq_true] at this
   have hj1 : j = i - 1 := by omega
   rw [hj1]; exact this
theorem ba_ {o : Oper} {j : Nat} {listed : Array Bool} (h : bl_ o j = true) (hall : ∀ e ∈ o.after, Region.binds .any e = true → listed.getD e.on false = true) : listed.getD j false = true := by
 simp only [bl_, Array.any_eq_true'] at h
 obtain ⟨e, he, h⟩ := h
 simp only [Bool.and_eq_true, beq_iff_eq] at h
 have := hall e he h.2
 rwa [h.1] at this
theorem ej_ {listed : Array Bool} (hcl : ∀ j o i, l[j]? = some o → listed.getD j false = true → bl_ o i = true → listed.getD i false = true) : ∀ (f i : Nat) (o : Oper), l[i]? = some o →
 (∀ k, bl_ o k = true → listed.getD k false = true) → ∀ j, d7_ l f i j = true → listed.getD j false = true
 | 0, _, _, _, _, _, h => by simp [d7_] at h
 | f + 1, i, o, ho, hw, j, h => by
  simp only [d7_, ho, Bool.or_eq_true, List.any_eq_true, List.mem_range, Bool.and_eq_true] at h
  rcases h with h | ⟨k, hk, h1, h2⟩
  · exact hw j h
  · have hil : i < l.length := (List.getElem?_eq_some_iff.1 ho).1
    have hkl : k < l.length := by omega
    have hko : l[k]? = some l[k] := by simp [hkl]
    exact ej_ hcl f k l[k] hko (fun x hx => hcl k l[k] x hko (hw k h1) hx) j h2
theorem hy_ {Q : Exit → Act → World → Prop} (G : GrowOk l m n slots) : ∀ (d k : Nat) (listed : Array Bool) (a : Act) (w : World), m ≤ k → k + d = l.length → listed.size = l.length →
 (∀ i, i < l.length → listed.getD i false = decide (i < k)) → wpList P l.toArray Q (l.drop k) a w → wpAny P .any l.toArray Q d listed a w
 | 0, k, listed, a, w, hm, hk, hs, hl, h => by
  have e : Region.ready .any l.toArray listed = [] := by
   rw [List.eq_nil_iff_forall_not_mem]
   intro j hj
   obtain ⟨h1, o, ho, _⟩ := mem_ready.1 hj
   have hjl : j < l.length := by simpa using (Array.getElem?_eq_some_iff.1 ho).1
   have h2 := hl j hjl
   rw [show decide (j < k) = true by simp; omega] at h2
   have h3 : listed.getD j true = listed.getD j false := by simp [Array.getD, show j < listed.size by omega]
   rw [h3, h2] at h1; cases h1
  refine ⟨e, ?_⟩
  rw [List.drop_of_length_le (by omega)] at h
  exact h
 | d + 1, k, listed, a, w, hm, hk, hs, hl, h => by
  have hkl : k < l.length := by omega
  have hr : ∀ j, j ∈ Region.ready .any l.toArray listed → j = k := fun j hj => by
   obtain ⟨h1, o, ho, hall⟩ := mem_ready.1 hj
   have hjl : j < l.length := by simpa using (Array.getElem?_eq_some_iff.1 ho).1
   have h3 : listed.getD j true = listed.getD j false := by simp [Array.getD, show j < listed.size by omega]
   rw [h3, hl j hjl] at h1
   have hj1 : k ≤ j := by simpa using h1
   rcases Nat.lt_or_eq_of_le hj1 with hlt | heq
   · have := ba_ (G.tail j o (j - 1) (by omega) (by omega) (by simpa using ho) (by omega)) hall
     rw [hl (j - 1) (by omega)] at this; simp at this; omega
   · exact heq.symm
  have hne : Region.ready .any l.toArray listed ≠ [] := by
   intro e
   have : k ∈ Region.ready .any l.toArray listed := mem_ready.2 ⟨by
    have h3 : listed.getD k true = listed.getD k false := by simp [Array.getD, show k < listed.size by omega]
    rw [h3, hl k hkl]; simp, l[k], by simp [hkl], fun e he hbd => by
    have := G.low k l[k] (by simp [hkl]) e he hbd
    rw [hl e.on (by omega)]; exact decide_eq_true this⟩
   rw [e] at this; cases this
  refine ⟨fun e => absurd e hne, fun i hi => ?_⟩
  rw [hr i hi]
  have ih := fun a w => hy_ (Q := Q) G d (k + 1) (listed.setIfInBounds k true) a w (by omega) (by omega) (by simpa using hs) (fun i hi => by
   by_cases hik : i = k
   · subst hik; simp [show i < listed.size by omega]
   · rw [getD_set_ne false (Ne.symm hik), hl i hi]; simp; omega)
  rw [List.drop_eq_getElem_cons hkl] at h
  unfold wpOp
  simp only [List.getElem?_toArray, List.getElem?_eq_getElem hkl]
  simp only [wpList] at h
  split
  · rename_i hw
    simp only [hw, if_true] at h
    rcases h with h | h
    · exact .inl (Oper.wp_mono (fun a w hh => ih a w hh) h)
    · exact .inr h
  · rename_i hw
    simp only [hw] at h
    exact ih _ _ h
structure GrowInv (l : List Oper) (m : Nat) (slots : Nat → List Tmp) (fresh : Nat → Bool) (S : Nat → List Value → World → Prop) (a0 : Act) (W : World) (listed : Array Bool) (a : Act) (w : World) : Prop where
 size : listed.size = l.length
 defers : a.defers = a0.defers
 width : a.tmps.size = a0.tmps.size
 below : Below W.heap.size W w
 frame : ∀ s, (∀ i, i < m → a1_ l i ≠ s) → a.tmps.getD s undef = a0.tmps.getD s undef
 holds : ∀ i, i < m → listed.getD i false = true → S i ((slots i).map fun s => a.tmps.getD s undef) w
 new : ∀ i, i < m → listed.getD i false = true → fresh i = true → ∀ b, dx_ (a.tmps.getD (a1_ l i) undef) = some b → W.heap.size ≤ b ∧ b < w.heap.size
 ne : ∀ i j, i < m → j < m → listed.getD i false = true → listed.getD j false = true → fresh i = true → fresh j = true → i ≠ j →
  ∀ b, dx_ (a.tmps.getD (a1_ l i) undef) = some b → dx_ (a.tmps.getD (a1_ l j) undef) ≠ some b
theorem e0_ {a : Act} {d s : Tmp} {v : Value} (hd : d < a.tmps.size) : (a.put (some d) v).tmps.getD s undef = if s = d then v else a.tmps.getD s undef := by
 simp only [Act.put]
 by_cases h : s = d
 · subst h; simp [hd]
 · simp [h, Array.getElem?_setIfInBounds_ne (Ne.symm h)]
theorem GrowInv.step {fresh : Nat → Bool} {S : Nat → List Value → World → Prop} {a0 a : Act} {W w w' : World} {listed : Array Bool} {i : Nat} {o : Oper} {v : Value} (G : GrowOk l m a0.tmps.size slots)
 (hgrow : ∀ j, j < m → ∀ vs w w', Below w.heap.size w w' → S j vs w → S j vs w')
 (hI : GrowInv l m slots fresh S a0 W listed a w) (hi : i < m) (ho : l[i]? = some o) (hun : listed.getD i true = false)
 (hall : ∀ j o', j < m → l[j]? = some o' → bl_ o' i = true → listed.getD j false = false)
 (hb : Below w.heap.size w w') (hS : S i (v :: (slots i).tail.map fun s => a.tmps.getD s undef) w')
 (hf : fresh i = true → ∀ b, dx_ v = some b → w.heap.size ≤ b ∧ b < w'.heap.size) :
 GrowInv l m slots fresh S a0 W (listed.setIfInBounds i true) (a.put o.dst v) w' := by
 obtain ⟨hg, hd, hdn, hhead, hnot⟩ := G.guard i o hi ho
 have hil : i < l.length := (List.getElem?_eq_some_iff.1 ho).1
 have hda : a1_ l i < a.tmps.size := by rw [hI.width]; exact hdn
 have hv : ∀ s, (a.put o.dst v).tmps.getD s undef = if s = a1_ l i then v else a.tmps.getD s undef := fun s => by rw [hd]; exact e0_ hda
 have other : ∀ j, j < m → j ≠ i → listed.getD j false = true → a1_ l i ∉ slots j := fun j hj hne hl hmem => by
  have hjl : j < l.length := Nat.lt_of_lt_of_le hj G.le
  have hw := G.apart j l[j] i hj hi (by simp [hjl]) (Ne.symm hne) hmem
  have := hall j l[j] hj (by simp [hjl]) hw
  rw [hl] at this; cases this
 have hsz : W.heap.size ≤ w.heap.size := hI.below.size
 have old : ∀ j, j < m → j ≠ i → (listed.setIfInBounds i true).getD j false = true → listed.getD j false = true := fun j hj hne h => by
  rwa [getD_set_ne false (Ne.symm hne)] at h
 have own : ∀ j, j < m → j ≠ i → listed.getD j false = true → (a.put o.dst v).tmps.getD (a1_ l j) undef = a.tmps.getD (a1_ l j) undef := fun j hj hne hl => by
  have hjl : j < l.length := Nat.lt_of_lt_of_le hj G.le
  have hh := (G.guard j l[j] hj (by simp [hjl])).2.2.2.1
  have hm' : a1_ l j ∈ slots j := List.mem_of_mem_head? (by rw [hh]; rfl)
  rw [hv, if_neg]
  intro e
  rw [e] at hm'
  exact other j hj hne hl hm'
 refine ⟨by simpa using hI.size, ?_, ?_, hI.below.trans (hb.mono hsz), ?_, ?_, ?_, ?_⟩
 · rw [← hI.defers]; cases o.dst <;> rfl
 · rw [← hI.width]; cases o.dst <;> simp [Act.put]
 · intro s hs
   rw [hv, if_neg (Ne.symm (hs i hi)), hI.frame s hs]
 · intro j hj hl
   by_cases hne : j = i
   · subst hne
     have e : (slots j).map (fun s => (a.put o.dst v).tmps.getD s undef) = v :: (slots j).tail.map fun s => a.tmps.getD s undef := by
      obtain ⟨d, t, hdt⟩ : ∃ d t, slots j = d :: t := by
       cases hc : slots j with
       | nil => rw [hc] at hhead; cases hhead
       | cons d t => exact ⟨d, t, rfl⟩
      rw [hdt] at hhead hnot ⊢
      simp only [List.head?_cons, Option.some.injEq, List.tail_cons] at hhead hnot
      subst hhead
      simp only [List.map_cons, List.tail_cons, hv, if_true]
      congr 1
      apply List.map_congr_left
      intro s hs
      rw [if_neg (fun e => hnot (by rw [← e]; exact hs))]
     rw [e]; exact hS
   · have hl' := old j hj hne hl
     have e : (slots j).map (fun s => (a.put o.dst v).tmps.getD s undef) = (slots j).map fun s => a.tmps.getD s undef := by
      apply List.map_congr_left
      intro s hs
      rw [hv, if_neg]
      intro e; subst e
      exact other j hj hne hl' hs
     rw [e]
     exact hgrow j hj _ _ _ hb (hI.holds j hj hl')
 · intro j hj hl hfr b hbk
   by_cases hne : j = i
   · subst hne
     rw [hv, if_pos rfl] at hbk
     have := hf hfr b hbk
     omega
   · have hl' := old j hj hne hl
     rw [own j hj hne hl'] at hbk
     have := hI.new j hj hl' hfr b hbk
     have := hb.size
     omega
 · intro j k hj hk hlj hlk hfj hfk hjk b hbj
   by_cases hji : j = i
   · subst hji
     rw [hv, if_pos rfl] at hbj
     have h1 := hf hfj b hbj
     have hlk' := old k hk (Ne.symm hjk) hlk
     rw [own k hk (Ne.symm hjk) hlk']
     intro e
     have := hI.new k hk hlk' hfk b e
     omega
   · have hlj' := old j hj hji hlj
     rw [own j hj hji hlj'] at hbj
     by_cases hki : k = i
     · subst hki
       rw [hv, if_pos rfl]
       intro e
       have h1 := hf hfk b e
       have := hI.new j hj hlj' hfj b hbj
       omega
     · have hlk' := old k hk hki hlk
       rw [own k hk hki hlk']
       exact hI.ne j k hj hk hlj' hlk' hfj hfk hjk b hbj
def dw_ (a : Act) (f : Tmp → Value) (ds : List Tmp) : Act := ds.foldl (fun a d => a.put (some d) (f d)) a
theorem ew_ (f : Tmp → Value) : ∀ (ds : List Tmp) (a : Act), (dw_ a f ds).tmps.size = a.tmps.size ∧ (dw_ a f ds).defers = a.defers
 | [], a => ⟨rfl, rfl⟩
 | d :: ds, a => by
  have := ew_ f ds (a.put (some d) (f d))
  simpa [dw_, Act.put] using this
theorem gz_ (f : Tmp → Value) (s : Tmp) : ∀ (ds : List Tmp) (a : Act), (∀ d ∈ ds, d < a.tmps.size) → (dw_ a f ds).tmps.getD s undef = if s ∈ ds then f s else a.tmps.getD s undef
 | [], a, _ => by simp [dw_]
 | d :: ds, a, h => by
  have hd : d < a.tmps.size := h d (by simp)
  have ih := gz_ f s ds (a.put (some d) (f d)) (fun x hx => by simpa [Act.put] using h x (by simp [hx]))
  have e : dw_ a f (d :: ds) = dw_ (a.put (some d) (f d)) f ds := rfl
  rw [e, ih, e0_ hd]
  by_cases h1 : s ∈ ds
  · simp [h1]
  · by_cases h2 : s = d
    · subst h2; simp [h1]
    · simp [h1, h2]
theorem ll_ {a b : Act} (hd : a.defers = b.defers) (hs : a.tmps.size = b.tmps.size) (h : ∀ s, a.tmps.getD s undef = b.tmps.getD s undef) : a = b := by
 cases a with
 | mk t d => cases b with
  | mk t' d' =>
   simp only at hd hs h
   subst hd
   congr 1
   apply Array.ext hs
   intro i h1 h2
   have := h i
   simpa [h1, h2] using this
theorem kh_ {id : Nat} {Q : Exit → Act → World → Prop} {a0 : Act} {w0 : World} (m : Nat) (slots : Nat → List Tmp) (fresh : Nat → Bool) (S : Nat → List Value → World → Prop)
 (hm : P.follows .mixedOrders = true) (hG : growB l m a0.tmps.size slots = true)
 (hgrow : ∀ j, j < m → ∀ vs w w', Below w.heap.size w w' → S j vs w → S j vs w')
 (hstep : ∀ i o, i < m → l[i]? = some o → ∀ (a : Act) (w : World), Below w0.heap.size w0 w → (∀ s, (∀ i, i < m → a1_ l i ≠ s) → a.tmps.getD s undef = a0.tmps.getD s undef) →
   (∀ j, j < m → bl_ o j = true → S j ((slots j).map fun s => a.tmps.getD s undef) w) →
   e7_ P o a w fun v w' => S i (v :: (slots i).tail.map fun s => a.tmps.getD s undef) w' ∧ (fresh i = true → ∀ b, dx_ v = some b → w.heap.size ≤ b ∧ b < w'.heap.size))
 (hend : ∀ (f : Tmp → Value) (w : World), Below w0.heap.size w0 w → (∀ i, i < m → S i ((slots i).map f) w) →
   (∀ i, i < m → fresh i = true → ∀ b, dx_ (f (a1_ l i)) = some b → w0.heap.size ≤ b ∧ b < w.heap.size) →
   (∀ i j, i < m → j < m → fresh i = true → fresh j = true → i ≠ j → ∀ b, dx_ (f (a1_ l i)) = some b → dx_ (f (a1_ l j)) ≠ some b) →
   wpList P l.toArray Q (l.drop m) (dw_ a0 f ((List.range m).map (a1_ l))) w) :
 (Code.region id l.toArray true).wp P Q a0 w0 := by
 have G := GrowOk.of hG
 refine wp_region_any hm ?_
 have hW : Below w0.heap.size w0 { w0 with drawn := w0.drawn + 1 } := ⟨rfl, rfl, rfl, Nat.le_refl _, fun _ _ => rfl⟩
 have key : ∀ (c : Nat) (listed : Array Bool) (a : Act) (w : World), ((List.range m).filter fun i => listed.getD i false == false).length = c → (∀ i, m ≤ i → listed.getD i false = false) →
  (∀ j o i, l[j]? = some o → listed.getD j false = true → bl_ o i = true → listed.getD i false = true) →
  GrowInv l m slots fresh S a0 w0 listed a w → wpAny P .any l.toArray Q (c + (l.length - m)) listed a w := by
  intro c
  induction c with
  | zero =>
   intro listed a w hc ht hcl hI
   have hall : ∀ i, i < m → listed.getD i false = true := fun i hi => by
    have h0 := List.eq_nil_of_length_eq_zero hc
    rw [List.filter_eq_nil_iff] at h0
    have := h0 i (List.mem_range.2 hi)
    simpa using this
   rw [Nat.zero_add]
   refine hy_ G (l.length - m) m listed a w (Nat.le_refl _) (by have := G.le; omega) hI.size (fun i _ => ?_) ?_
   · by_cases hi : i < m
     · rw [hall i hi]; simp [hi]
     · rw [ht i (by omega)]; simp [hi]
   · have e : a = dw_ a0 (fun s => a.tmps.getD s undef) ((List.range m).map (a1_ l)) := by
      refine ll_ (by rw [(ew_ _ _ _).2, hI.defers]) (by rw [(ew_ _ _ _).1, hI.width]) fun s => ?_
      rw [gz_ _ _ _ _ (fun d hd => by
       simp only [List.mem_map, List.mem_range] at hd
       obtain ⟨i, hi, rfl⟩ := hd
       have hil : i < l.length := Nat.lt_of_lt_of_le hi G.le
       exact (G.guard i l[i] hi (by simp [hil])).2.2.1)]
      by_cases hs : s ∈ (List.range m).map (a1_ l)
      · rw [if_pos hs]
      · rw [if_neg hs]
        refine hI.frame s fun i hi e => hs ?_
        simp only [List.mem_map, List.mem_range]
        exact ⟨i, hi, e⟩
     rw [e]
     exact hend _ w hI.below (fun i hi => hI.holds i hi (hall i hi)) (fun i hi hf b hb => hI.new i hi (hall i hi) hf b hb) (fun i j hi hj hfi hfj hne b hb => hI.ne i j hi hj (hall i hi) (hall j hj) hfi hfj hne b hb)
  | succ c ih =>
   intro listed a w hc ht hcl hI
   have hone : ∃ i, i < m ∧ listed.getD i false = false := by
    have h0 : ((List.range m).filter fun i => listed.getD i false == false) ≠ [] := by intro e; rw [e] at hc; simp at hc
    obtain ⟨i, hi⟩ := List.exists_mem_of_ne_nil _ h0
    simp only [List.mem_filter, List.mem_range, beq_iff_eq] at hi
    exact ⟨i, hi.1, hi.2⟩
   obtain ⟨i1, hi1, hun1⟩ := hone
   have hlow : ∀ i o, i ∈ Region.ready .any l.toArray listed → l[i]? = some o → i < m := fun i o hi ho => by
    obtain ⟨_, o', ho', hall⟩ := mem_ready.1 hi
    have e : o' = o := by simp at ho'; rw [ho] at ho'; exact (Option.some.inj ho').symm
    subst e
    rcases Nat.lt_or_ge i m with h | h
    · exact h
    · by_cases him : i = m
      · subst him
        have hr := G.tail0 o' i1 hi1 ho
        have := ej_ hcl l.length i o' ho (fun k hk => ba_ hk hall) i1 hr
        rw [hun1] at this; cases this
      · have := ba_ (G.tail i o' (i - 1) (by omega) (by omega) ho (by omega)) hall
        rw [ht (i - 1) (by omega)] at this; cases this
   have hne : Region.ready .any l.toArray listed ≠ [] := by
    have hex : ∃ i, listed.getD i false = false ∧ i < m := ⟨i1, hun1, hi1⟩
    have hmin : ∃ i, (listed.getD i false = false ∧ i < m) ∧ ∀ j, j < i → ¬ (listed.getD j false = false ∧ j < m) := by
     have : ∀ k, ∀ i, i ≤ k → (listed.getD i false = false ∧ i < m) → ∃ i, (listed.getD i false = false ∧ i < m) ∧ ∀ j, j < i → ¬ (listed.getD j false = false ∧ j < m) := by
      intro k
      induction k with
      | zero => intro i hi h; exact ⟨i, h, fun j hj => by omega⟩
      | succ k ihk =>
       intro i hi h
       by_cases hx : ∃ j, j < i ∧ (listed.getD j false = false ∧ j < m)
       · obtain ⟨j, hj, hh⟩ := hx
         exact ihk j (by omega) hh
       · exact ⟨i, h, fun j hj hh => hx ⟨j, hj, hh⟩⟩
     exact this i1 i1 (Nat.le_refl _) ⟨hun1, hi1⟩
    obtain ⟨i, ⟨hun, him⟩, hmi⟩ := hmin
    have hil : i < l.length := Nat.lt_of_lt_of_le him G.le
    intro e
    have : i ∈ Region.ready .any l.toArray listed := mem_ready.2 ⟨by
     have h3 : listed.getD i true = listed.getD i false := by simp [Array.getD, show i < listed.size by rw [hI.size]; exact hil]
     rw [h3, hun], l[i], by simp [hil], fun e he hbd => by
     have h4 := G.low i l[i] (by simp [hil]) e he hbd
     have h5 := hmi e.on h4
     cases hb : listed.getD e.on false with
     | true => rfl
     | false => exact absurd ⟨hb, by omega⟩ h5⟩
    rw [e] at this; cases this
   rw [show c + 1 + (l.length - m) = (c + (l.length - m)) + 1 by omega]
   refine ⟨fun e => absurd e hne, fun i hi => ?_⟩
   obtain ⟨hun, o, ho', hallr⟩ := mem_ready.1 hi
   have ho : l[i]? = some o := by simpa using ho'
   have him := hlow i o hi ho
   have hil : i < l.length := (List.getElem?_eq_some_iff.1 ho).1
   have hunf : listed.getD i false = false := by
    have h3 : listed.getD i true = listed.getD i false := by simp [Array.getD, show i < listed.size by rw [hI.size]; exact hil]
    rw [← h3, hun]
   have hg := (G.guard i o him ho).1
   unfold wpOp
   simp only [ho']
   rw [if_pos (by simp [Region.wanted, hg])]
   refine .inl (td_ (hstep i o him ho a w hI.below hI.frame (fun j hj hw => hI.holds j hj (ba_ hw hallr))) fun v w' hb hh => ?_)
   refine ih _ _ _ ?_ ?_ ?_ (hI.step G hgrow him ho hun (fun j o' hj hjo hw => by
    cases hb' : listed.getD j false with
    | false => rfl
    | true => have := hcl j o' i hjo hb' hw; rw [hunf] at this; cases this) hb hh.1 hh.2)
   · have hset : ∀ k, (listed.setIfInBounds i true).getD k false = if k = i then true else listed.getD k false := fun k => by
      by_cases hk : k = i
      · subst hk; simp [show k < listed.size by rw [hI.size]; exact hil]
      · rw [getD_set_ne false (Ne.symm hk), if_neg hk]
     have e2 : ((List.range m).filter fun k => (listed.setIfInBounds i true).getD k false == false) = ((List.range m).filter fun k => listed.getD k false == false).erase i := by
      rw [List.Nodup.erase_eq_filter (List.Nodup.sublist List.filter_sublist List.nodup_range), List.filter_filter]
      apply List.filter_congr
      intro k _
      rw [hset k]
      by_cases hk : k = i
      · subst hk; simp
      · simp [hk]
     rw [e2, List.length_erase_of_mem (List.mem_filter.2 ⟨List.mem_range.2 him, by rw [hunf]; rfl⟩)]
     omega
   · intro k hk
     rw [getD_set_ne false (by omega)]
     exact ht k hk
   · intro j o' k hjo hl hw
     by_cases hj : j = i
     · subst hj
       rw [ho] at hjo
       cases hjo
       exact getD_set_true (ba_ hw hallr)
     · rw [getD_set_ne false (Ne.symm hj)] at hl
       exact getD_set_true (hcl j o' k hjo hl hw)
 have e0 : ∀ i, (Array.replicate l.toArray.size false).getD i false = false := fun i => by simp [Array.getD]
 have hc0 : ((List.range m).filter fun i => (Array.replicate l.toArray.size false).getD i false == false).length = m := by
  rw [List.filter_eq_self.2 (fun i _ => by rw [e0]; rfl)]; simp
 have := key m (Array.replicate l.toArray.size false) a0 { w0 with drawn := w0.drawn + 1 } hc0 (fun i _ => e0 i) (fun j o i _ h => by rw [e0] at h; cases h)
  ⟨by simp, rfl, rfl, hW, fun _ _ => rfl, fun i _ h => (by rw [e0] at h; cases h), fun i _ h => (by rw [e0] at h; cases h), fun i j _ _ h => (by rw [e0] at h; cases h)⟩
 rw [show m + (l.length - m) = l.toArray.size by simp; have := G.le; omega] at this
 exact this
end
end
section
open Go.RowKit
inductive Fact
 | val (v : Value)
 | blk (mk : Nat → Value) (o : Obj)
 | fn (ds : List Tmp) (g : List Value → Value)
 | more (R : Value → World → Prop) (h : ∀ v w w', Below w.heap.size w w' → R v w → R v w')
def Fact.deps : Fact → List Tmp
 | .fn ds _ => ds
 | _ => []
def Fact.says : Fact → List Value → World → Prop
 | .val v, u :: _, _ => u = v
 | .blk mk o, u :: _, w => ∃ b, u = mk b ∧ w.heap[b]? = some o
 | .fn _ g, u :: ds, _ => u = g ds
 | .more R _, u :: _, w => R u w
 | _, [], _ => False
theorem Fact.grow (F : Fact) {vs : List Value} {w w' : World} (hb : Below w.heap.size w w') (h : F.says vs w) : F.says vs w' := by
 cases F <;> cases vs <;> simp only [Fact.says] at h ⊢
 · exact h
 · obtain ⟨b, h1, h2⟩ := h
   exact ⟨b, h1, (hb.block _ (lt_of_block h2)).trans h2⟩
 · exact h
 · rename_i R hR u us
   exact hR _ _ _ hb h
def cy_ (Fs : List Fact) (i : Nat) : Fact := (Fs[i]?).getD (.val undef)
def fk_ (l : List Oper) (Fs : List Fact) (i : Nat) : List Tmp := a1_ l i :: (cy_ Fs i).deps
def Fact.isNew : Fact → Bool
 | .blk .. => true
 | _ => false
section
variable {P : Program}
def iw_ (P : Program) (l : List Oper) (Fs : List Fact) (a0 : Act) (w0 : World) : List Oper → Nat → Prop
 | [], _ => True
 | o :: r, i => (∀ (a : Act) (w : World), Below w0.heap.size w0 w → (∀ s, (∀ i, i < Fs.length → a1_ l i ≠ s) → a.tmps[s]?.getD undef = a0.tmps[s]?.getD undef) →
  (∀ j, j < Fs.length → bl_ o j = true → (cy_ Fs j).says ((fk_ l Fs j).map fun s => a.tmps[s]?.getD undef) w) →
  e7_ P o a w fun v w' => (cy_ Fs i).says (v :: (cy_ Fs i).deps.map fun s => a.tmps[s]?.getD undef) w' ∧ ((cy_ Fs i).isNew = true → ∀ b, dx_ v = some b → w.heap.size ≤ b ∧ b < w'.heap.size)) ∧
  iw_ P l Fs a0 w0 r (i + 1)
theorem ij_ {l : List Oper} {Fs : List Fact} {a0 : Act} {w0 : World} : ∀ (r : List Oper) (k : Nat), iw_ P l Fs a0 w0 r k → ∀ i o, r[i]? = some o → ∀ (a : Act) (w : World), Below w0.heap.size w0 w → (∀ s, (∀ i, i < Fs.length → a1_ l i ≠ s) → a.tmps[s]?.getD undef = a0.tmps[s]?.getD undef) →
 (∀ j, j < Fs.length → bl_ o j = true → (cy_ Fs j).says ((fk_ l Fs j).map fun s => a.tmps[s]?.getD undef) w) →
 e7_ P o a w fun v w' => (cy_ Fs (k + i)).says (v :: (cy_ Fs (k + i)).deps.map fun s => a.tmps[s]?.getD undef) w' ∧ ((cy_ Fs (k + i)).isNew = true → ∀ b, dx_ v = some b → w.heap.size ≤ b ∧ b < w'.heap.size)
 | [], _, _, i, o, h => by simp at h
 | o' :: r, k, hs, 0, o, h => by
  simp only [List.getElem?_cons_zero, Option.some.injEq] at h
  subst h
  exact hs.1
 | o' :: r, k, hs, i + 1, o, h => by
  have := ij_ r (k + 1) hs.2 i o (by simpa using h)
  rw [show k + 1 + i = k + (i + 1) by omega] at this
  exact this
theorem jg_ {id : Nat} {l : List Oper} {Q : Exit → Act → World → Prop} {a0 : Act} {w0 : World} (Fs : List Fact)
 (hm : P.follows .mixedOrders = true) (hG : growB l Fs.length a0.tmps.size (fk_ l Fs) = true)
 (hstep : iw_ P l Fs a0 w0 (l.take Fs.length) 0)
 (hend : ∀ (f : Tmp → Value) (w : World), Below w0.heap.size w0 w → (∀ i, i < Fs.length → (cy_ Fs i).says ((fk_ l Fs i).map f) w) →
   (∀ i, i < Fs.length → (cy_ Fs i).isNew = true → ∀ b, dx_ (f (a1_ l i)) = some b → w0.heap.size ≤ b ∧ b < w.heap.size) →
   (∀ i j, i < Fs.length → j < Fs.length → (cy_ Fs i).isNew = true → (cy_ Fs j).isNew = true → i ≠ j → ∀ b, dx_ (f (a1_ l i)) = some b → dx_ (f (a1_ l j)) ≠ some b) →
   wpList P l.toArray Q (l.drop Fs.length) (dw_ a0 f ((List.range Fs.length).map (a1_ l))) w) :
 (Code.region id l.toArray true).wp P Q a0 w0 :=
 kh_ Fs.length (fk_ l Fs) (fun i => (cy_ Fs i).isNew) (fun i => (cy_ Fs i).says) hm hG (fun j _ vs w w' hb h => (cy_ Fs j).grow hb h)
  (fun i o hi ho a w hb hf hd => by
    simp only [Array.getD_eq_getD_getElem?] at hf hd ⊢
    have := ij_ (l.take Fs.length) 0 hstep i o (by rw [List.getElem?_take_of_lt hi]; exact ho) a w hb hf hd
    simpa only [Nat.zero_add, fk_, List.tail_cons] using this) hend
theorem b2_ {w : World} {n m : Nat} {o : Obj} {b : Nat} (h : dx_ (.slice (some ⟨w.heap.size, 0, none⟩) n m) = some b) : w.heap.size ≤ b ∧ b < (w.alloc o).heap.size := by
 simp [dx_] at h; subst h; simp
theorem te_ {w : World} {o : Obj} {b : Nat} (h : dx_ (.pointer (some ⟨w.heap.size, 0, none⟩)) = some b) : w.heap.size ≤ b ∧ b < (w.alloc o).heap.size := by
 simp [dx_] at h; subst h; simp
theorem as_ {o : Oper} {a : Act} {w : World} {K : Value → World → Prop} (t : Tmp) (ho : o.op = .move (.tmp t)) (h : K (a.tmps[t]?.getD undef) w) : e7_ P o a w K := by
 unfold e7_
 simp [execOp, ho, iv_, Act.eval]
 exact ⟨Below.refl _ _, h⟩
theorem av_ {o : Oper} {a : Act} {w w' : World} {v : Value} {K : Value → World → Prop} (he : (execOp a.eval o).run P w = .ok (.value v) w') (hb : Below w.heap.size w w') (h : K v w') : e7_ P o a w K := by
 unfold e7_
 rw [he]
 exact ⟨hb, h⟩
theorem cu_ {o : Oper} {a : Act} {w : World} {f : FuncId} {args : Array Value} {K : Value → World → Prop} (he : (execOp a.eval o).run P w = .ok (.enter f args) w)
 (h : Calls P f args w fun e w'' => ∃ v, e = .returned v ∧ Below w.heap.size w w'' ∧ K v w'') : e7_ P o a w K := by
 unfold e7_
 rw [he]
 exact ⟨rfl, h⟩
theorem c9_ {o : Oper} {a : Act} {w : World} {K : Value → World → Prop} (x : Tmp) (ty : TypeId) (ho : o.op = .load ty (.tmp x))
 (g : Nat) (hx : a.tmps[x]?.getD undef = .pointer (some ⟨g, 0, none⟩)) (t : TypeId) (cs : Array Value) (fr : Nat × Nat) (d : TypeDesc) (hg : w.heap[g]? = some (.cells cs t fr))
 (hu : P.underlying ty = some d) (hd : (match d with | .struct _ | .array _ _ => true | _ => false) = true) (hi : (P.info? ty).map (·.size) = some cs.size) (h : K (.agg cs) w) : e7_ P o a w K :=
 av_ (by simp [execOp, ho, Act.eval, hx, Instr.loadAt, Instr.sureAddr, run_loadVar_row w g t ty cs fr d hg hu hd hi]) (Below.refl _ _) h
end
end
end Go.Proofs.YtacaejpamidkcaaGreatDoor
