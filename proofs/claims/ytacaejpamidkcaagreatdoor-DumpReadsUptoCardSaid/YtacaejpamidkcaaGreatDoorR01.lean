/- Small tactics of the walks: name the world, the facts of a block. What a call changed: some blocks; everything else of the old memory stays. Regions that draw their order and hold calls that change memory, one behind the other, ahead of a tail in one forced order. No program in sight. Regions that draw their order, with a late store: the tail's first operation (a store) may come ahead of one operation of the prefix that only hands on a part of a result. No program in sight. Short forms of what the drawn regions' proofs say often. No program in sight. -/
import Derived.Lib.Hide
import Derived.Handy
import Derived.Deep.WholeRow
import Derived.Laws.CopyOwn
import Derived.Test.YtacaejpamidkcaaGreatDoorR00
set_option linter.unusedVariables false
set_option linter.unusedSimpArgs false
namespace Go.Proofs.YtacaejpamidkcaaGreatDoor
section
open Go.RowKit
theorem ac_ {Q : World → Prop} {w : World} (h : ∀ W, w = W → Q W) : Q w := h w rfl
theorem ad_ {P : Program} {ops : Array Oper} {Q : Exit → Act → World → Prop} {d : Option Tmp} {t : TypeId} {x y : Operand} {ty : TypeId} {pos : String} {af : Array Edge} {g : Option (Nat × Bool)} {rest : List Oper} {a : Act} {w : World}
 (h : wpList P ops Q (⟨d, .store t x y, ty, pos, af, g⟩ :: rest) a w) : wpList P ops Q (⟨d, .store t x y, ty, pos, af, g⟩ :: rest) a w := h
theorem ae_ {w : World} {b : Nat} {o o' : Obj} (h : w.heap[b]? = some o) : (w.alloc o').heap[b]? = some o :=
 ((((Below.refl w.heap.size w).alloc (Nat.le_refl _) o').block _ (lt_of_block h))).trans h
theorem az_ {w : World} {b : Nat} {o : Obj} (h : w.heap[b]? = some o) : w.drew.heap[b]? = some o := h
theorem ab_ {w : World} {b : Nat} {l : List Value} {t : TypeId} {fr : Nat × Nat} (h : w.heap[b]? = some (.cells l.toArray t fr)) (i : Nat) {v : Value} (hv : l[i]? = some v) : w.cell? ⟨b, i, none⟩ = some v :=
 al_ h i (by simpa using hv)
theorem aj_ {w : World} {b : Nat} {l : List Value} {t : TypeId} {fr : Nat × Nat} (h : w.heap[b]? = some (.cells l.toArray t fr)) (i : Nat) (v : Value) :
 (w.setCell ⟨b, i, none⟩ v).heap[b]? = some (.cells (l.set i v).toArray t fr) := by
 have hl := lt_of_block h
 have h' : w.heap[b] = .cells l.toArray t fr := by simpa [hl] using h
 simp only [World.setCell]
 rw [Array.getElem?_eq_getElem (by simpa using hl), Array.getElem_modify]
 simp [h']
theorem aw_ {w w0 w1 : World} (h0 : Below w.heap.size w w0) (h1 : Below w0.heap.size w0 w1) : Below w.heap.size w w1 := h0.trans (h1.mono h0.size)
theorem eo_ {w w1 : World} {o : Obj} (h : Below (w.alloc o).heap.size (w.alloc o) w1) : w.heap.size < w1.heap.size := by
 have := h.size
 simp at this
 omega
theorem kq_ {w w1 : World} {o o2 : Obj} (h : Below ((w.alloc o).alloc o2).heap.size ((w.alloc o).alloc o2) w1) : w.heap.size < w1.heap.size ∧ w.heap.size + 1 < w1.heap.size := by
 have := h.size
 simp at this
 omega
theorem ay_ {w : World} {b : Nat} {o : Obj} (h : w.heap[b]? = some o) (a : Addr) (v : Value) (hne : b ≠ a.block) : (w.setCell a v).heap[b]? = some o :=
 (Below.heap_setCell w a v b hne).trans h
section
variable {P : Program}
theorem a3_ {fn : Func} {p t2 : Tmp} {ty : TypeId} (h : fn.results = #[.cell p ty, .tmp t2]) (tmps : Array Value) (w : World) (g : Nat) (t : TypeId) (cs : Array Value) (fr : Nat × Nat) (d : TypeDesc)
 (hp : tmps.getD p undef = .pointer (some ⟨g, 0, none⟩)) (hg : w.heap[g]? = some (.cells cs t fr))
 (hu : P.underlying ty = some d) (hd : (match d with | .struct _ | .array _ _ => true | _ => false) = true) (hi : (P.info? ty).map (·.size) = some cs.size) :
 (results fn tmps).run P w = .ok (.tuple #[.agg cs, tmps.getD t2 undef]) w := by
 have hp' : tmps[p]?.getD undef = .pointer (some ⟨g, 0, none⟩) := by simpa using hp
 simp [results, h, hp', asAddr, run_loadVar_row w g t ty cs fr d hg hu hd hi]
theorem hw_ {fn : Func} {p t2 t3 : Tmp} {ty : TypeId} (h : fn.results = #[.cell p ty, .tmp t2, .tmp t3]) (tmps : Array Value) (w : World) (g : Nat) (t : TypeId) (cs : Array Value) (fr : Nat × Nat) (d : TypeDesc)
 (hp : tmps.getD p undef = .pointer (some ⟨g, 0, none⟩)) (hg : w.heap[g]? = some (.cells cs t fr))
 (hu : P.underlying ty = some d) (hd : (match d with | .struct _ | .array _ _ => true | _ => false) = true) (hi : (P.info? ty).map (·.size) = some cs.size) :
 (results fn tmps).run P w = .ok (.tuple #[.agg cs, tmps.getD t2 undef, tmps.getD t3 undef]) w := by
 have hp' : tmps[p]?.getD undef = .pointer (some ⟨g, 0, none⟩) := by simpa using hp
 simp [results, h, hp', asAddr, run_loadVar_row w g t ty cs fr d hg hu hd hi]
theorem f1_ {fn : Func} {p p2 : Tmp} {ty ty2 : TypeId} (h : fn.results = #[.cell p ty, .cell p2 ty2]) (tmps : Array Value) (w : World) (g : Nat) (t : TypeId) (cs : Array Value) (fr : Nat × Nat) (d : TypeDesc)
 (hp : tmps.getD p undef = .pointer (some ⟨g, 0, none⟩)) (hg : w.heap[g]? = some (.cells cs t fr))
 (hu : P.underlying ty = some d) (hd : (match d with | .struct _ | .array _ _ => true | _ => false) = true) (hi : (P.info? ty).map (·.size) = some cs.size)
 (g2 : Nat) (t2 : TypeId) (cs2 : Array Value) (fr2 : Nat × Nat) (d2 : TypeDesc)
 (hp2 : tmps.getD p2 undef = .pointer (some ⟨g2, 0, none⟩)) (hg2 : w.heap[g2]? = some (.cells cs2 t2 fr2))
 (hu2 : P.underlying ty2 = some d2) (hd2 : (match d2 with | .struct _ | .array _ _ => true | _ => false) = true) (hi2 : (P.info? ty2).map (·.size) = some cs2.size) :
 (results fn tmps).run P w = .ok (.tuple #[.agg cs, .agg cs2]) w := by
 have hp' : tmps[p]?.getD undef = .pointer (some ⟨g, 0, none⟩) := by simpa using hp
 have hp2' : tmps[p2]?.getD undef = .pointer (some ⟨g2, 0, none⟩) := by simpa using hp2
 simp [results, h, hp', hp2', asAddr, run_loadVar_row w g t ty cs fr d hg hu hd hi, run_loadVar_row w g2 t2 ty2 cs2 fr2 d2 hg2 hu2 hd2 hi2]
end
end
section
open Go.RowKit
theorem hx_ (g j : Nat) : (⟨g, 0, none⟩ : Addr).add j = ⟨g, j, none⟩ := by unfold Addr.add; split <;> simp_all
structure Only (S : Nat → Prop) (w w' : World) : Prop where
 os : w'.os = w.os
 tape : w'.tape = w.tape
 output : w'.output = w.output
 size : w.heap.size ≤ w'.heap.size
 block : ∀ k, k < w.heap.size → ¬ S k → w'.heap[k]? = w.heap[k]?
theorem Only.refl (S : Nat → Prop) (w : World) : Only S w w := ⟨rfl, rfl, rfl, Nat.le_refl _, fun _ _ _ => rfl⟩
theorem Only.trans {S : Nat → Prop} {w w1 w2 : World} (h : Only S w w1) (k : Only S w1 w2) : Only S w w2 :=
 ⟨k.os.trans h.os, k.tape.trans h.tape, k.output.trans h.output, Nat.le_trans h.size k.size, fun b hb hs => (k.block b (Nat.lt_of_lt_of_le hb h.size) hs).trans (h.block b hb hs)⟩
theorem Only.mono {S T : Nat → Prop} {w w1 : World} (h : Only S w w1) (hS : ∀ k, k < w.heap.size → S k → T k) : Only T w w1 :=
 ⟨h.os, h.tape, h.output, h.size, fun b hb hs => h.block b hb fun hS' => hs (hS b hb hS')⟩
theorem Only.of_below {S : Nat → Prop} {w w1 : World} (h : Below w.heap.size w w1) : Only S w w1 := ⟨h.os, h.tape, h.output, h.size, fun b hb _ => h.block b hb⟩
theorem Only.below {S : Nat → Prop} {w w1 : World} {B : Nat} (h : Only S w w1) (hB : B ≤ w.heap.size) (hS : ∀ k, S k → B ≤ k) : Below B w w1 :=
 ⟨h.os, h.tape, h.output, h.size, fun b hb => h.block b (by omega) fun hs => by have := hS b hs; omega⟩
theorem Only.of_below_le {S : Nat → Prop} {w w1 : World} {B : Nat} (h : Below B w w1) (hS : ∀ k, k < w.heap.size → B ≤ k → S k) : Only S w w1 :=
 ⟨h.os, h.tape, h.output, h.size, fun b hb hs => h.block b (Nat.lt_of_not_le fun hle => hs (hS b hb hle))⟩
theorem Only.setRow {S : Nat → Prop} {w w1 : World} (h : Only S w w1) (g : Nat) (cs : Array Value) (hg : S g ∨ w.heap.size ≤ g) : Only S w (w1.setRow g cs) :=
 ⟨h.os, h.tape, h.output, by simpa using h.size, fun b hb hs => by
  rw [setRow_other _ _ _ _ (fun e => by subst e; rcases hg with hg | hg; exact hs hg; omega)]
  exact h.block b hb hs⟩
theorem Only.setCell {S : Nat → Prop} {w w1 : World} (h : Only S w w1) (a : Addr) (v : Value) (hg : S a.block ∨ w.heap.size ≤ a.block) : Only S w (w1.setCell a v) :=
 ⟨h.os, h.tape, h.output, by simpa [World.setCell] using h.size, fun b hb hs => by
  rw [Below.heap_setCell _ _ _ _ (fun e => by subst e; rcases hg with hg | hg; exact hs hg; omega)]
  exact h.block b hb hs⟩
theorem Only.alloc {S : Nat → Prop} {w w1 : World} (h : Only S w w1) (o : Obj) : Only S w (w1.alloc o) :=
 h.trans (Only.of_below ((Below.refl _ _).alloc (Nat.le_refl _) _))
theorem Only.drew {S : Nat → Prop} {w w1 : World} (h : Only S w w1) : Only S w w1.drew := ⟨h.os, h.tape, h.output, h.size, h.block⟩
theorem Only.call {S : Nat → Prop} {w w1 w2 : World} (h : Only S w w1) (hb : Below w1.heap.size w1 w2) : Only S w w2 := h.trans (Only.of_below hb)
theorem Only.cell {S : Nat → Prop} {w w1 : World} (h : Only S w w1) {b i : Nat} (hb : b < w.heap.size) (hs : ¬ S b) : w1.cell? ⟨b, i, none⟩ = w.cell? ⟨b, i, none⟩ := World.cell?_of_block (h.block b hb hs)
theorem Only.frozen {S : Nat → Prop} {w w1 : World} (h : Only S w w1) {b i : Nat} (hb : b < w.heap.size) (hs : ¬ S b) : w1.frozen? ⟨b, i, none⟩ = w.frozen? ⟨b, i, none⟩ := World.frozen?_of_block (h.block b hb hs)
theorem Only.kept {S : Nat → Prop} {w w1 : World} (h : Only S w w1) {b : Nat} {o : Obj} (hb : w.heap[b]? = some o) (hs : ¬ S b) : w1.heap[b]? = some o := (h.block b (lt_of_block hb) hs).trans hb
theorem Only.then {S T : Nat → Prop} {w w1 w2 : World} (h : Only S w w1) (k : Only T w1 w2) (hT : ∀ b, b < w.heap.size → T b → S b) : Only S w w2 :=
 ⟨k.os.trans h.os, k.tape.trans h.tape, k.output.trans h.output, Nat.le_trans h.size k.size, fun b hb hs => (k.block b (Nat.lt_of_lt_of_le hb h.size) (fun ht => hs (hT b hb ht))).trans (h.block b hb hs)⟩
end
section
open Go.RowKit
def ua_ (P : Program) (K : Value → World → Prop) : Result Next → Prop
 | .ok (.value v) w' => K v w'
 | .ok (.enter f args) w' => Calls P f args w' fun e w'' => ∃ v, e = .returned v ∧ K v w''
 | _ => False
def opDo (P : Program) (o : Oper) (a : Act) (w : World) (K : Value → World → Prop) : Prop := ua_ P K ((execOp a.eval o).run P w)
theorem ub_ {P : Program} {o : Oper} {a : Act} {w : World} {K : Value → World → Prop} {K' : Act → World → Prop} {Q : Exit → Act → World → Prop}
 (h : opDo P o a w K) (hK : ∀ v w', K v w' → K' (a.put o.dst v) w') : o.wp P a w K' Q := by
 unfold opDo at h
 unfold Oper.wp
 generalize (execOp a.eval o).run P w = r at *
 cases r with
 | ok n w' =>
  cases n <;> simp only [ua_] at h <;> simp only [Oper.upon]
  case value u => exact hK _ _ h
  case enter f args => exact h.mono fun e w'' ⟨v, he, hk⟩ => by subst he; exact hK _ _ hk
 | halt x w' => simp only [ua_] at h
inductive SFact (S : Nat → Prop) where
 | val (v : Value)
 | more (f : Value → World → Prop) (h : ∀ v w w', Only S w w' → f v w → f v w')
def SFact.holds {S : Nat → Prop} : SFact S → Value → World → Prop
 | .val v, u, _ => u = v
 | .more f _, u, w => f u w
theorem SFact.grow {S : Nat → Prop} (x : SFact S) {u : Value} {w w' : World} (ho : Only S w w') (h : x.holds u w) : x.holds u w' := by
 cases x with
 | val v => exact h
 | more f hf => exact hf u w w' ho h
def dz_ {S : Nat → Prop} (F : List (SFact S)) (i : Nat) : SFact S := (F[i]?).getD (.val undef)
def js_ (cs : List Nat) (i k : Nat) : Nat := if cs.contains i then k + 1 else k
def seqB (l : List Oper) (m n : Nat) (cs : List Nat) : Bool :=
 growB l m n (fun i => [a1_ l i]) &&
 (List.range cs.length).all fun t => decide ((cs[t]?).getD 0 < m) && (t == 0 || d7_ l l.length ((cs[t]?).getD 0) ((cs[t - 1]?).getD 0))
structure SeqOk (l : List Oper) (m n : Nat) (cs : List Nat) : Prop where
 grow : GrowOk l m n (fun i => [a1_ l i])
 chain : ∀ t, 0 < t → t < cs.length → d7_ l l.length ((cs[t]?).getD 0) ((cs[t - 1]?).getD 0) = true
 inl : ∀ t, t < cs.length → (cs[t]?).getD 0 < m
theorem SeqOk.of {l : List Oper} {m n : Nat} {cs : List Nat} (h : seqB l m n cs = true) : SeqOk l m n cs := by
 simp only [seqB, Bool.and_eq_true, List.all_eq_true, List.mem_range] at h
 obtain ⟨h1, h2⟩ := h
 refine ⟨GrowOk.of h1, fun t h0 ht => ?_, fun t ht => ?_⟩
 · have := (h2 t ht).2
   simp only [Bool.or_eq_true, beq_iff_eq] at this
   rcases this with h | h
   · omega
   · exact h
 · have := (h2 t ht).1
   simpa using this
section
variable {P : Program} {l : List Oper} {m n : Nat} {cs : List Nat} {S : Nat → Prop} {F : List (SFact S)} {J : Nat → World → Prop}
def hk_ (P : Program) (l : List Oper) (m : Nat) (cs : List Nat) (F : List (SFact S)) (J : Nat → World → Prop) (a0 : Act) (w0 : World) : List Oper → Nat → Prop
 | [], _ => True
 | o :: r, i => (∀ (k : Nat) (a : Act) (w : World), Only S w0 w → J k w → (∀ t, t < cs.length → (cs[t]?).getD 0 = i → t = k) → (∀ t, t < cs.length → d7_ l l.length i ((cs[t]?).getD 0) = true → t < k) →
  (∀ s, (List.range m).all (fun i => !(a1_ l i == s)) = true → a.tmps[s]?.getD undef = a0.tmps[s]?.getD undef) →
  (∀ j, j < m → bl_ o j = true → (dz_ F j).holds (a.tmps[a1_ l j]?.getD undef) w) → opDo P o a w fun v w' => (dz_ F i).holds v w' ∧ Only S w w' ∧ J (js_ cs i k) w') ∧
  hk_ P l m cs F J a0 w0 r (i + 1)
theorem gq_ {a0 : Act} {w0 : World} : ∀ (r : List Oper) (b : Nat), hk_ P l m cs F J a0 w0 r b → ∀ i o, r[i]? = some o → ∀ (k : Nat) (a : Act) (w : World), Only S w0 w → J k w → (∀ t, t < cs.length → (cs[t]?).getD 0 = b + i → t = k) → (∀ t, t < cs.length → d7_ l l.length (b + i) ((cs[t]?).getD 0) = true → t < k) →
 (∀ s, (List.range m).all (fun i => !(a1_ l i == s)) = true → a.tmps[s]?.getD undef = a0.tmps[s]?.getD undef) → (∀ j, j < m → bl_ o j = true → (dz_ F j).holds (a.tmps[a1_ l j]?.getD undef) w) → opDo P o a w fun v w' => (dz_ F (b + i)).holds v w' ∧ Only S w w' ∧ J (js_ cs (b + i) k) w'
 | [], _, _, i, o, h => by simp at h
 | o' :: r, b, hs, 0, o, h => by
  simp only [List.getElem?_cons_zero, Option.some.injEq] at h
  subst h
  exact hs.1
 | o' :: r, b, hs, i + 1, o, h => by
  have := gq_ r (b + 1) hs.2 i o (by simpa using h)
  rw [show b + 1 + i = b + (i + 1) by omega] at this
  exact this
structure SeqInv (l : List Oper) (m : Nat) (cs : List Nat) (F : List (SFact S)) (J : Nat → World → Prop) (a0 : Act) (w0 : World) (listed : Array Bool) (a : Act) (w : World) : Prop where
 size : listed.size = l.length
 defers : a.defers = a0.defers
 width : a.tmps.size = a0.tmps.size
 only : Only S w0 w
 frame : ∀ s, (∀ i, i < m → a1_ l i ≠ s) → a.tmps.getD s undef = a0.tmps.getD s undef
 holds : ∀ i, i < m → listed.getD i false = true → (dz_ F i).holds (a.tmps.getD (a1_ l i) undef) w
 at_ : ∃ k, k ≤ cs.length ∧ J k w ∧ ∀ t, t < cs.length → listed.getD ((cs[t]?).getD 0) false = decide (t < k)
theorem e2_ {a : Act} {d : Option Tmp} {v : Value} : (a.put d v).tmps.size = a.tmps.size ∧ (a.put d v).defers = a.defers := by
 cases d <;> simp [Act.put]
theorem ls_ {id : Nat} {Q : Exit → Act → World → Prop} {a0 : Act} {w0 : World} (m : Nat) (cs : List Nat) (S : Nat → Prop) (F : List (SFact S)) (J : Nat → World → Prop)
 (hm : P.follows .mixedOrders = true) (hG : seqB l m a0.tmps.size cs = true) (h0 : J 0 w0.drew) (hstep : hk_ P l m cs F J a0 w0 (l.take m) 0)
 (hend : ∀ (f : Tmp → Value) (w : World), Only S w0 w → J cs.length w → (∀ i, i < m → (dz_ F i).holds (f (a1_ l i)) w) →
   wpList P l.toArray Q (l.drop m) (dw_ a0 f ((List.range m).map (a1_ l))) w) :
 (Code.region id l.toArray true).wp P Q a0 w0 := by
 have GG := SeqOk.of hG
 have G := GG.grow
 refine wp_region_any hm ?_
 have hW : Only S w0 { w0 with drawn := w0.drawn + 1 } := ⟨rfl, rfl, rfl, Nat.le_refl _, fun _ _ _ => rfl⟩
 have apart : ∀ i j, i < m → j < m → a1_ l i = a1_ l j → i ≠ j → False := fun i j hi hj e hne => by
  have hil : i < l.length := Nat.lt_of_lt_of_le hi G.le
  have hjl : j < l.length := Nat.lt_of_lt_of_le hj G.le
  have h1 := G.apart i l[i] j hi hj (by simp [hil]) (Ne.symm hne) (by simp [e])
  have h2 := G.apart j l[j] i hj hi (by simp [hjl]) hne (by simp [e])
  simp only [bl_, Array.any_eq_true'] at h1 h2
  obtain ⟨e1, he1, h1⟩ := h1
  obtain ⟨e2, he2, h2⟩ := h2
  simp only [Bool.and_eq_true, beq_iff_eq] at h1 h2
  have := G.low i l[i] (by simp [hil]) e1 he1 h1.2
  have := G.low j l[j] (by simp [hjl]) e2 he2 h2.2
  omega
 have key : ∀ (c : Nat) (listed : Array Bool) (a : Act) (w : World), ((List.range m).filter fun i => listed.getD i false == false).length = c → (∀ i, m ≤ i → listed.getD i false = false) →
  (∀ j o i, l[j]? = some o → listed.getD j false = true → bl_ o i = true → listed.getD i false = true) →
  SeqInv l m cs F J a0 w0 listed a w → wpAny P .any l.toArray Q (c + (l.length - m)) listed a w := by
  intro c
  induction c with
  | zero =>
   intro listed a w hc ht hcl hI
   have hall : ∀ i, i < m → listed.getD i false = true := fun i hi => by
    have h0 := List.eq_nil_of_length_eq_zero hc
    rw [List.filter_eq_nil_iff] at h0
    have := h0 i (List.mem_range.2 hi)
    simpa using this
   rw [Nat.zero_add]
   refine hy_ G (l.length - m) m listed a w (Nat.le_refl _) (by have := G.le; omega) hI.size (fun i _ => ?_) ?_
   · by_cases hi : i < m
     · rw [hall i hi]; simp [hi]
     · rw [ht i (by omega)]; simp [hi]
   · obtain ⟨k, hk, hJ, hpre⟩ := hI.at_
     have hkl : k = cs.length := by
      rcases Nat.lt_or_ge k cs.length with h | h
      · have h1 := hpre k h
        rw [hall _ (GG.inl k h)] at h1
        simp at h1
      · omega
     subst hkl
     have e : a = dw_ a0 (fun s => a.tmps.getD s undef) ((List.range m).map (a1_ l)) := by
      refine ll_ (by rw [(ew_ _ _ _).2, hI.defers]) (by rw [(ew_ _ _ _).1, hI.width]) fun s => ?_
      rw [gz_ _ _ _ _ (fun d hd => by
       simp only [List.mem_map, List.mem_range] at hd
       obtain ⟨i, hi, rfl⟩ := hd
       have hil : i < l.length := Nat.lt_of_lt_of_le hi G.le
       exact (G.guard i l[i] hi (by simp [hil])).2.2.1)]
      by_cases hs : s ∈ (List.range m).map (a1_ l)
      · rw [if_pos hs]
      · rw [if_neg hs]
        refine hI.frame s fun i hi e => hs ?_
        simp only [List.mem_map, List.mem_range]
        exact ⟨i, hi, e⟩
     rw [e]
     exact hend _ w hI.only hJ (fun i hi => hI.holds i hi (hall i hi))
  | succ c ih =>
   intro listed a w hc ht hcl hI
   have hone : ∃ i, i < m ∧ listed.getD i false = false := by
    have h0 : ((List.range m).filter fun i => listed.getD i false == false) ≠ [] := by intro e; rw [e] at hc; simp at hc
    obtain ⟨i, hi⟩ := List.exists_mem_of_ne_nil _ h0
    simp only [List.mem_filter, List.mem_range, beq_iff_eq] at hi
    exact ⟨i, hi.1, hi.2⟩
   obtain ⟨i1, hi1, hun1⟩ := hone
   have hlow : ∀ i o, i ∈ Region.ready .any l.toArray listed → l[i]? = some o → i < m := fun i o hi ho => by
    obtain ⟨_, o', ho', hall⟩ := mem_ready.1 hi
    have e : o' = o := by simp at ho'; rw [ho] at ho'; exact (Option.some.inj ho').symm
    subst e
    rcases Nat.lt_or_ge i m with h | h
    · exact h
    · by_cases him : i = m
      · subst him
        have hr := G.tail0 o' i1 hi1 ho
        have := ej_ hcl l.length i o' ho (fun k hk => ba_ hk hall) i1 hr
        rw [hun1] at this; cases this
      · have := ba_ (G.tail i o' (i - 1) (by omega) (by omega) ho (by omega)) hall
        rw [ht (i - 1) (by omega)] at this; cases this
   have hne : Region.ready .any l.toArray listed ≠ [] := by
    have hmin : ∃ i, (listed.getD i false = false ∧ i < m) ∧ ∀ j, j < i → ¬ (listed.getD j false = false ∧ j < m) := by
     have : ∀ k, ∀ i, i ≤ k → (listed.getD i false = false ∧ i < m) → ∃ i, (listed.getD i false = false ∧ i < m) ∧ ∀ j, j < i → ¬ (listed.getD j false = false ∧ j < m) := by
      intro k
      induction k with
      | zero => intro i hi h; exact ⟨i, h, fun j hj => by omega⟩
      | succ k ihk =>
       intro i hi h
       by_cases hx : ∃ j, j < i ∧ (listed.getD j false = false ∧ j < m)
       · obtain ⟨j, hj, hh⟩ := hx
         exact ihk j (by omega) hh
       · exact ⟨i, h, fun j hj hh => hx ⟨j, hj, hh⟩⟩
     exact this i1 i1 (Nat.le_refl _) ⟨hun1, hi1⟩
    obtain ⟨i, ⟨hun, him⟩, hmi⟩ := hmin
    have hil : i < l.length := Nat.lt_of_lt_of_le him G.le
    intro e
    have : i ∈ Region.ready .any l.toArray listed := mem_ready.2 ⟨by
     have h3 : listed.getD i true = listed.getD i false := by simp [Array.getD, show i < listed.size by rw [hI.size]; exact hil]
     rw [h3, hun], l[i], by simp [hil], fun e he hbd => by
     have h4 := G.low i l[i] (by simp [hil]) e he hbd
     have h5 := hmi e.on h4
     cases hb : listed.getD e.on false with
     | true => rfl
     | false => exact absurd ⟨hb, by omega⟩ h5⟩
    rw [e] at this; cases this
   rw [show c + 1 + (l.length - m) = (c + (l.length - m)) + 1 by omega]
   refine ⟨fun e => absurd e hne, fun i hi => ?_⟩
   obtain ⟨hun, o, ho', hallr⟩ := mem_ready.1 hi
   have ho : l[i]? = some o := by simpa using ho'
   have him := hlow i o hi ho
   have hil : i < l.length := (List.getElem?_eq_some_iff.1 ho).1
   have hunf : listed.getD i false = false := by
    have h3 : listed.getD i true = listed.getD i false := by simp [Array.getD, show i < listed.size by rw [hI.size]; exact hil]
    rw [← h3, hun]
   obtain ⟨hg, hdo, hdn, _, _⟩ := G.guard i o him ho
   have hrl : ∀ j, d7_ l l.length i j = true → listed.getD j false = true := fun j hj => ej_ hcl l.length i o ho (fun k hk => ba_ hk hallr) j hj
   obtain ⟨k, hk, hJ, hpre⟩ := hI.at_
   have hkk : ∀ t, t < cs.length → d7_ l l.length i ((cs[t]?).getD 0) = true → t < k := fun t ht hr => by
    have h1 := hrl _ hr
    rw [hpre t ht] at h1
    simpa using h1
   have hat : ∀ t, t < cs.length → (cs[t]?).getD 0 = i → t = k := fun t ht hti => by
    have h1 := hpre t ht
    rw [hti, hunf] at h1
    have h2 : ¬ t < k := by simpa using h1.symm
    rcases Nat.eq_zero_or_pos t with h | h
    · omega
    · have h3 := GG.chain t h ht
      rw [hti] at h3
      have := hkk (t - 1) (by omega) h3
      omega
   have hset : ∀ k, (listed.setIfInBounds i true).getD k false = if k = i then true else listed.getD k false := fun k => by
    by_cases hk : k = i
    · subst hk; simp [show k < listed.size by rw [hI.size]; exact hil]
    · rw [getD_set_ne false (Ne.symm hk), if_neg hk]
   unfold wpOp
   simp only [ho']
   rw [if_pos (by simp [Region.wanted, hg])]
   have hs := gq_ (l.take m) 0 hstep i o (by rw [List.getElem?_take_of_lt him]; exact ho) k a w hI.only hJ (by rw [Nat.zero_add]; exact hat) (by rw [Nat.zero_add]; exact hkk)
    (fun s hs => by
      have := hI.frame s (fun i hi e => by
       rw [List.all_eq_true] at hs
       have h1 := hs i (List.mem_range.2 hi)
       simp [e] at h1)
      simpa only [Array.getD_eq_getD_getElem?] using this)
    (fun j hj hw => by
      have := hI.holds j hj (ba_ hw hallr)
      simpa only [Array.getD_eq_getD_getElem?] using this)
   rw [Nat.zero_add] at hs
   refine .inl (ub_ hs fun v w' hh => ?_)
   obtain ⟨hf, hon, hJ'⟩ := hh
   have hda : a1_ l i < a.tmps.size := by rw [hI.width]; exact hdn
   refine ih _ _ _ ?_ ?_ ?_ ⟨by simpa using hI.size, ?_, ?_, hI.only.trans hon, ?_, ?_, ?_⟩
   · have e2 : ((List.range m).filter fun k => (listed.setIfInBounds i true).getD k false == false) = ((List.range m).filter fun k => listed.getD k false == false).erase i := by
      rw [List.Nodup.erase_eq_filter (List.Nodup.sublist List.filter_sublist List.nodup_range), List.filter_filter]
      apply List.filter_congr
      intro k _
      rw [hset k]
      by_cases hk : k = i
      · subst hk; simp
      · simp [hk]
     rw [e2, List.length_erase_of_mem (List.mem_filter.2 ⟨List.mem_range.2 him, by rw [hunf]; rfl⟩)]
     omega
   · intro k hk
     rw [getD_set_ne false (by omega)]
     exact ht k hk
   · intro j o' k hjo hl hw
     by_cases hj : j = i
     · subst hj
       rw [ho] at hjo
       cases hjo
       exact getD_set_true (ba_ hw hallr)
     · rw [getD_set_ne false (Ne.symm hj)] at hl
       exact getD_set_true (hcl j o' k hjo hl hw)
   · rw [e2_.2, hI.defers]
   · rw [e2_.1, hI.width]
   · intro s hs
     rw [hdo, e0_ hda, if_neg (Ne.symm (hs i him)), hI.frame s hs]
   · intro j hj hl
     by_cases hji : j = i
     · subst hji
       rw [hdo, e0_ hda, if_pos rfl]
       exact hf
     · rw [getD_set_ne false (Ne.symm hji)] at hl
       rw [hdo, e0_ hda, if_neg (fun e => apart j i hj him e hji)]
       exact (dz_ F j).grow hon (hI.holds j hj hl)
   · by_cases hic : cs.contains i = true
     · have hic2 : i ∈ cs := by simpa using hic
       obtain ⟨t, ht, hti⟩ := List.getElem_of_mem hic2
       have hti2 : (cs[t]?).getD 0 = i := by rw [List.getElem?_eq_getElem ht]; exact hti
       have htk := hat t ht hti2
       subst htk
       have hn : js_ cs i t = t + 1 := by unfold js_; rw [if_pos hic]
       rw [hn] at hJ'
       refine ⟨t + 1, ht, hJ', fun u hu => ?_⟩
       rw [hset]
       by_cases e : (cs[u]?).getD 0 = i
       · rw [if_pos e, hat u hu e]; simp
       · rw [if_neg e, hpre u hu]
         have : u ≠ t := fun h => e (by rw [h]; exact hti2)
         simp; omega
     · have hn : js_ cs i k = k := by unfold js_; rw [if_neg hic]
       rw [hn] at hJ'
       refine ⟨k, hk, hJ', fun u hu => ?_⟩
       rw [hset]
       have e : ¬ (cs[u]?).getD 0 = i := fun e => hic (by
        rw [← e, List.getElem?_eq_getElem hu]
        simp)
       rw [if_neg e]
       exact hpre u hu
 have e0 : ∀ i, (Array.replicate l.toArray.size false).getD i false = false := fun i => by simp [Array.getD]
 have hc0 : ((List.range m).filter fun i => (Array.replicate l.toArray.size false).getD i false == false).length = m := by
  rw [List.filter_eq_self.2 (fun i _ => by rw [e0]; rfl)]; simp
 have := key m (Array.replicate l.toArray.size false) a0 { w0 with drawn := w0.drawn + 1 } hc0 (fun i _ => e0 i) (fun j o i _ h => by rw [e0] at h; cases h)
  ⟨by simp, rfl, rfl, hW, fun _ _ => rfl, fun i _ h => (by rw [e0] at h; cases h), ⟨0, Nat.zero_le _, h0, fun t _ => by rw [e0]; simp⟩⟩
 rw [show m + (l.length - m) = l.toArray.size by simp; have := G.le; omega] at this
 exact this
end
section
variable {P : Program}
theorem bc_ {o : Oper} {a : Act} {w w' : World} {v : Value} {K : Value → World → Prop} (he : (execOp a.eval o).run P w = .ok (.value v) w') (h : K v w') : opDo P o a w K := by
 unfold opDo
 rw [he]
 exact h
theorem a0_ {o : Oper} {a : Act} {w : World} {f : FuncId} {args : Array Value} {K : Value → World → Prop} (he : (execOp a.eval o).run P w = .ok (.enter f args) w)
 (h : Calls P f args w fun e w'' => ∃ v, e = .returned v ∧ K v w'') : opDo P o a w K := by
 unfold opDo
 rw [he]
 exact h
end
end
section
open Go.RowKit
def lateB (l : List Oper) (m n : Nat) (cs : List Nat) (e : Nat) : Bool :=
 decide (m + 1 < l.length) && decide (e < m) && !(cs.contains e) &&
 ((List.range l.length).all fun i => match l[i]? with
   | none => false
   | some o => (o.after.all fun x => !Region.binds .any x || decide (x.on < i)) &&
    (if i < m then o.guard.isNone && (o.dst == some (a1_ l i)) && decide (a1_ l i < n) && (List.range m).all (fun j => j == i || !(a1_ l j == a1_ l i))
      else if i == m then o.guard.isNone && o.dst.isNone && (List.range m).all (fun j => j == e || d7_ l l.length m j)
      else bl_ o (i - 1) && (i != m + 1 || bl_ o e))) &&
 (List.range cs.length).all fun t => decide ((cs[t]?).getD 0 < m) && (t == 0 || d7_ l l.length ((cs[t]?).getD 0) ((cs[t - 1]?).getD 0))
structure LateOk (l : List Oper) (m n : Nat) (cs : List Nat) (e : Nat) : Prop where
 le : m + 1 < l.length
 el : e < m
 ec : cs.contains e = false
 low : ∀ (i : Nat) (o : Oper), l[i]? = some o → ∀ x ∈ o.after, Region.binds .any x = true → x.on < i
 guard : ∀ (i : Nat) (o : Oper), i < m → l[i]? = some o → o.guard = none ∧ o.dst = some (a1_ l i) ∧ a1_ l i < n
 inj : ∀ i j, i < m → j < m → a1_ l j = a1_ l i → j = i
 st : ∀ (o : Oper), l[m]? = some o → o.guard = none ∧ o.dst = none ∧ ∀ j, j < m → j ≠ e → d7_ l l.length m j = true
 tail : ∀ (i : Nat) (o : Oper), m < i → l[i]? = some o → bl_ o (i - 1) = true
 tail1 : ∀ (o : Oper), l[m + 1]? = some o → bl_ o e = true
 chain : ∀ t, 0 < t → t < cs.length → d7_ l l.length ((cs[t]?).getD 0) ((cs[t - 1]?).getD 0) = true
 inl : ∀ t, t < cs.length → (cs[t]?).getD 0 < m
theorem LateOk.of {l : List Oper} {m n : Nat} {cs : List Nat} {e : Nat} (h : lateB l m n cs e = true) : LateOk l m n cs e := by
 simp only [lateB, Bool.and_eq_true, List.all_eq_true, List.mem_range, decide_eq_true_eq, Bool.not_eq_true'] at h
 obtain ⟨⟨⟨⟨h1, h2⟩, h3⟩, h4⟩, h5⟩ := h
 have key : ∀ i o, l[i]? = some o → (o.after.all fun x => !Region.binds .any x || decide (x.on < i)) = true ∧
  (if i < m then o.guard.isNone && (o.dst == some (a1_ l i)) && decide (a1_ l i < n) && (List.range m).all (fun j => j == i || !(a1_ l j == a1_ l i))
    else if i == m then o.guard.isNone && o.dst.isNone && (List.range m).all (fun j => j == e || d7_ l l.length m j)
    else bl_ o (i - 1) && (i != m + 1 || bl_ o e)) = true := fun i o ho => by
  have := h4 i (List.getElem?_eq_some_iff.1 ho).1
  rw [ho] at this
  simpa only [Bool.and_eq_true] using this
 refine ⟨h1, h2, h3, fun i o ho x hx hb => ?_, fun i o hi ho => ?_, fun i j hi hj hd => ?_, fun o ho => ?_, fun i o hi ho => ?_, fun o ho => ?_, fun t h0 ht => ?_, fun t ht => ?_⟩
 · have := (key i o ho).1
   rw [Array.all_eq_true_iff_forall_mem] at this
   have := this x hx
   rw [hb] at this
   simpa using this
 · have := (key i o ho).2
   rw [if_pos hi] at this
   simp only [Bool.and_eq_true, Option.isNone_iff_eq_none, beq_iff_eq, decide_eq_true_eq] at this
   exact ⟨this.1.1.1, this.1.1.2, this.1.2⟩
 · have hil : i < l.length := by omega
   have := (key i l[i] (by simp [hil])).2
   rw [if_pos hi] at this
   simp only [Bool.and_eq_true, List.all_eq_true, List.mem_range, Bool.or_eq_true, beq_iff_eq] at this
   rcases this.2 j hj with h | h
   · exact h
   · simp [hd] at h
 · have := (key m o ho).2
   rw [if_neg (by omega), if_pos (by simp)] at this
   simp only [Bool.and_eq_true, Option.isNone_iff_eq_none, List.all_eq_true, List.mem_range, Bool.or_eq_true, beq_iff_eq] at this
   exact ⟨this.1.1, this.1.2, fun j hj hje => (this.2 j hj).resolve_left hje⟩
 · have := (key i o ho).2
   rw [if_neg (by omega), if_neg (by simp; omega)] at this
   simp only [Bool.and_eq_true] at this
   exact this.1
 · have := (key (m + 1) o ho).2
   rw [if_neg (by omega), if_neg (by simp)] at this
   simp only [Bool.and_eq_true, Bool.or_eq_true] at this
   rcases this.2 with h | h
   · simp at h
   · exact h
 · have := (h5 t ht).2
   simp only [Bool.or_eq_true, beq_iff_eq] at this
   rcases this with h | h
   · omega
   · exact h
 · have := (h5 t ht).1
   simpa using this
section
variable {P : Program} {l : List Oper} {m n : Nat} {cs : List Nat} {S : Nat → Prop} {F : List (SFact S)} {J : Nat → World → Prop} {e : Nat}
theorem j1_ {Q : Exit → Act → World → Prop} (G : LateOk l m n cs e) : ∀ (d k : Nat) (listed : Array Bool) (a : Act) (w : World), m ≤ k → k + d = l.length → listed.size = l.length →
 (∀ i, i < l.length → listed.getD i false = decide (i < k)) → wpList P l.toArray Q (l.drop k) a w → wpAny P .any l.toArray Q d listed a w
 | 0, k, listed, a, w, hm, hk, hs, hl, h => by
  have e0 : Region.ready .any l.toArray listed = [] := by
   rw [List.eq_nil_iff_forall_not_mem]
   intro j hj
   obtain ⟨h1, o, ho, _⟩ := mem_ready.1 hj
   have hjl : j < l.length := by simpa using (Array.getElem?_eq_some_iff.1 ho).1
   have h2 := hl j hjl
   rw [show decide (j < k) = true by simp; omega] at h2
   have h3 : listed.getD j true = listed.getD j false := by simp [Array.getD, show j < listed.size by omega]
   rw [h3, h2] at h1; cases h1
  refine ⟨e0, ?_⟩
  rw [List.drop_of_length_le (by omega)] at h
  exact h
 | d + 1, k, listed, a, w, hm, hk, hs, hl, h => by
  have hkl : k < l.length := by omega
  have hr : ∀ j, j ∈ Region.ready .any l.toArray listed → j = k := fun j hj => by
   obtain ⟨h1, o, ho, hall⟩ := mem_ready.1 hj
   have hjl : j < l.length := by simpa using (Array.getElem?_eq_some_iff.1 ho).1
   have h3 : listed.getD j true = listed.getD j false := by simp [Array.getD, show j < listed.size by omega]
   rw [h3, hl j hjl] at h1
   have hj1 : k ≤ j := by simpa using h1
   rcases Nat.lt_or_eq_of_le hj1 with hlt | heq
   · have := ba_ (G.tail j o (by omega) (by simpa using ho)) hall
     rw [hl (j - 1) (by omega)] at this; simp at this; omega
   · exact heq.symm
  have hne : Region.ready .any l.toArray listed ≠ [] := by
   intro e1
   have : k ∈ Region.ready .any l.toArray listed := mem_ready.2 ⟨by
    have h3 : listed.getD k true = listed.getD k false := by simp [Array.getD, show k < listed.size by omega]
    rw [h3, hl k hkl]; simp, l[k], by simp [hkl], fun x he hbd => by
    have := G.low k l[k] (by simp [hkl]) x he hbd
    rw [hl x.on (by omega)]; exact decide_eq_true this⟩
   rw [e1] at this; cases this
  refine ⟨fun e1 => absurd e1 hne, fun i hi => ?_⟩
  rw [hr i hi]
  have ih := fun a w => j1_ (Q := Q) G d (k + 1) (listed.setIfInBounds k true) a w (by omega) (by omega) (by simpa using hs) (fun i hi => by
   by_cases hik : i = k
   · subst hik; simp [show i < listed.size by omega]
   · rw [getD_set_ne false (Ne.symm hik), hl i hi]; simp; omega)
  rw [List.drop_eq_getElem_cons hkl] at h
  unfold wpOp
  simp only [List.getElem?_toArray, List.getElem?_eq_getElem hkl]
  simp only [wpList] at h
  split
  · rename_i hw
    simp only [hw, if_true] at h
    rcases h with h | h
    · exact .inl (Oper.wp_mono (fun a w hh => ih a w hh) h)
    · exact .inr h
  · rename_i hw
    simp only [hw] at h
    exact ih _ _ h
theorem kn_ {id : Nat} {Q : Exit → Act → World → Prop} {a0 : Act} {w0 : World} (m : Nat) (e : Nat) (cs : List Nat) (S : Nat → Prop) (F : List (SFact S)) (J : Nat → World → Prop) (ve : Value)
 (hm : P.follows .mixedOrders = true) (hG : lateB l m a0.tmps.size cs e = true) (h0 : J 0 w0.drew) (hstep : hk_ P l m cs F J a0 w0 (l.take m) 0) (hFe : dz_ F e = .val ve)
 (hst : ∀ (a : Act) (w : World), Only S w0 w → J cs.length w → (∀ i, i < m → i ≠ e → (dz_ F i).holds (a.tmps.getD (a1_ l i) undef) w) → (∀ s, (∀ i, i < m → a1_ l i ≠ s) → a.tmps.getD s undef = a0.tmps.getD s undef) → ∀ om oe, l[m]? = some om → l[e]? = some oe →
   ∃ w', (∀ K : Act → World → Prop, K a w' → om.wp P a w K Q) ∧ ((execOp a.eval oe).run P w' = .ok (.value ve) w') ∧
    wpList P l.toArray Q (l.drop (m + 1)) (dw_ a0 (fun s => if s = a1_ l e then ve else a.tmps.getD s undef) ((List.range m).map (a1_ l))) w') :
 (Code.region id l.toArray true).wp P Q a0 w0 := by
 have G := LateOk.of hG
 refine wp_region_any hm ?_
 have hW : Only S w0 { w0 with drawn := w0.drawn + 1 } := ⟨rfl, rfl, rfl, Nat.le_refl _, fun _ _ _ => rfl⟩
 have hle := G.le
 have hel := G.el
 have hml : m < l.length := by omega
 have hell : e < l.length := by omega
 obtain ⟨om, hom⟩ : ∃ om, l[m]? = some om := ⟨l[m], by simp [hml]⟩
 obtain ⟨oe, hoe⟩ : ∃ oe, l[e]? = some oe := ⟨l[e], by simp [hell]⟩
 obtain ⟨hmg, hmd, hmr⟩ := G.st om hom
 have apart : ∀ i j, i < m → j < m → a1_ l i = a1_ l j → i ≠ j → False := fun i j hi hj h hne => hne (G.inj j i hj hi h)
 have hact : ∀ (a : Act), a.defers = a0.defers → a.tmps.size = a0.tmps.size → (∀ s, (∀ i, i < m → a1_ l i ≠ s) → a.tmps.getD s undef = a0.tmps.getD s undef) →
  a.put (some (a1_ l e)) ve = dw_ a0 (fun s => if s = a1_ l e then ve else a.tmps.getD s undef) ((List.range m).map (a1_ l)) := fun a hd hs hf => by
  have hde : a1_ l e < a.tmps.size := by rw [hs]; exact (G.guard e oe hel hoe).2.2
  refine ll_ (by rw [(ew_ _ _ _).2, e2_.2, hd]) (by rw [(ew_ _ _ _).1, e2_.1, hs]) fun s => ?_
  rw [gz_ _ _ _ _ (fun d hd => by
   simp only [List.mem_map, List.mem_range] at hd
   obtain ⟨i, hi, rfl⟩ := hd
   have hil : i < l.length := by omega
   exact (G.guard i l[i] hi (by simp [hil])).2.2), e0_ hde]
  by_cases hse : s = a1_ l e
  · subst hse
    rw [if_pos rfl, if_pos (by simp only [List.mem_map, List.mem_range]; exact ⟨e, hel, rfl⟩)]
  · rw [if_neg hse]
    by_cases hs : s ∈ (List.range m).map (a1_ l)
    · rw [if_pos hs]
    · rw [if_neg hs]
      refine hf s fun i hi h => hs ?_
      simp only [List.mem_map, List.mem_range]
      exact ⟨i, hi, h⟩
 have key : ∀ (c : Nat) (listed : Array Bool) (a : Act) (w : World), ((List.range m).filter fun i => listed.getD i false == false).length = c → (∀ i, m ≤ i → listed.getD i false = false) →
  (∀ j o i, l[j]? = some o → listed.getD j false = true → bl_ o i = true → listed.getD i false = true) →
  SeqInv l m cs F J a0 w0 listed a w → wpAny P .any l.toArray Q (c + (l.length - m)) listed a w := by
  intro c
  induction c with
  | zero =>
   intro listed a w hc ht hcl hI
   have hall : ∀ i, i < m → listed.getD i false = true := fun i hi => by
    have h0 := List.eq_nil_of_length_eq_zero hc
    rw [List.filter_eq_nil_iff] at h0
    have := h0 i (List.mem_range.2 hi)
    simpa using this
   rw [Nat.zero_add]
   refine j1_ G (l.length - m) m listed a w (Nat.le_refl _) (by omega) hI.size (fun i _ => ?_) ?_
   · by_cases hi : i < m
     · rw [hall i hi]; simp [hi]
     · rw [ht i (by omega)]; simp [hi]
   · obtain ⟨k, hk, hJ, hpre⟩ := hI.at_
     have hkl : k = cs.length := by
      rcases Nat.lt_or_ge k cs.length with h | h
      · have h1 := hpre k h
        rw [hall _ (G.inl k h)] at h1
        simp at h1
      · omega
     subst hkl
     obtain ⟨w', h1, h2, h3⟩ := hst a w hI.only hJ (fun i hi _ => hI.holds i hi (hall i hi)) hI.frame om oe hom hoe
     have he : a.tmps.getD (a1_ l e) undef = ve := by
      have := hI.holds e hel (hall e hel)
      rw [hFe] at this
      exact this
     have ha : dw_ a0 (fun s => if s = a1_ l e then ve else a.tmps.getD s undef) ((List.range m).map (a1_ l)) = a := by
      rw [← hact a hI.defers hI.width hI.frame]
      have hde : a1_ l e < a.tmps.size := by rw [hI.width]; exact (G.guard e oe hel hoe).2.2
      refine ll_ e2_.2 e2_.1 fun s => ?_
      rw [e0_ hde]
      by_cases hse : s = a1_ l e
      · subst hse; rw [if_pos rfl, he]
      · rw [if_neg hse]
     rw [ha] at h3
     rw [List.drop_eq_getElem_cons hml, show l[m] = om from by rw [List.getElem?_eq_getElem hml] at hom; exact Option.some.inj hom]
     refine wpList_plain hmg fun K hK => h1 _ ?_
     have := hK _ _ h3
     exact this
  | succ c ih =>
   intro listed a w hc ht hcl hI
   have hun2 : ∀ i, i < l.length → listed.getD i true = listed.getD i false := fun i hil => by simp [Array.getD, show i < listed.size by rw [hI.size]; exact hil]
   have hone : ∃ i, i < m ∧ listed.getD i false = false := by
    have h0 : ((List.range m).filter fun i => listed.getD i false == false) ≠ [] := by intro e1; rw [e1] at hc; simp at hc
    obtain ⟨i, hi⟩ := List.exists_mem_of_ne_nil _ h0
    simp only [List.mem_filter, List.mem_range, beq_iff_eq] at hi
    exact ⟨i, hi.1, hi.2⟩
   obtain ⟨i1, hi1, hun1⟩ := hone
   have hne : Region.ready .any l.toArray listed ≠ [] := by
    have hmin : ∃ i, (listed.getD i false = false ∧ i < m) ∧ ∀ j, j < i → ¬ (listed.getD j false = false ∧ j < m) := by
     have : ∀ k, ∀ i, i ≤ k → (listed.getD i false = false ∧ i < m) → ∃ i, (listed.getD i false = false ∧ i < m) ∧ ∀ j, j < i → ¬ (listed.getD j false = false ∧ j < m) := by
      intro k
      induction k with
      | zero => intro i hi h; exact ⟨i, h, fun j hj => by omega⟩
      | succ k ihk =>
       intro i hi h
       by_cases hx : ∃ j, j < i ∧ (listed.getD j false = false ∧ j < m)
       · obtain ⟨j, hj, hh⟩ := hx
         exact ihk j (by omega) hh
       · exact ⟨i, h, fun j hj hh => hx ⟨j, hj, hh⟩⟩
     exact this i1 i1 (Nat.le_refl _) ⟨hun1, hi1⟩
    obtain ⟨i, ⟨hun, him⟩, hmi⟩ := hmin
    have hil : i < l.length := by omega
    intro e1
    have : i ∈ Region.ready .any l.toArray listed := mem_ready.2 ⟨by
     rw [hun2 i hil, hun], l[i], by simp [hil], fun x he hbd => by
     have h4 := G.low i l[i] (by simp [hil]) x he hbd
     have h5 := hmi x.on h4
     cases hb : listed.getD x.on false with
     | true => rfl
     | false => exact absurd ⟨hb, by omega⟩ h5⟩
    rw [e1] at this; cases this
   rw [show c + 1 + (l.length - m) = (c + (l.length - m)) + 1 by omega]
   refine ⟨fun e1 => absurd e1 hne, fun i hi => ?_⟩
   obtain ⟨hun, o, ho', hallr⟩ := mem_ready.1 hi
   have ho : l[i]? = some o := by simpa using ho'
   have hil : i < l.length := (List.getElem?_eq_some_iff.1 ho).1
   have hunf : listed.getD i false = false := by rw [← hun2 i hil, hun]
   rcases Nat.lt_or_ge m i with hgt | hle2
   · -- an operation of the tail waits for the one ahead of it
     exfalso
     have := ba_ (G.tail i o hgt ho) hallr
     rw [ht (i - 1) (by omega)] at this; cases this
   by_cases him0 : i = m
   · -- the store comes ahead of the loose operation
     subst him0
     rw [hom] at ho
     cases ho
     have hlist : ∀ j, j < i → j ≠ e → listed.getD j false = true := fun j hj hje => ej_ hcl l.length i om hom (fun k hk => ba_ hk hallr) j (hmr j hj hje)
     have heun : listed.getD e false = false := by
      by_cases h : i1 = e
      · rw [← h]; exact hun1
      · have := hlist i1 hi1 h
        rw [hun1] at this; cases this
     have hc0 : c = 0 := by
      have e2 : ((List.range i).filter fun k => listed.getD k false == false).length = 1 := by
       have h1 : ((List.range i).filter fun k => listed.getD k false == false) = ((List.range i).filter fun k => k == e) := by
        apply List.filter_congr
        intro k hk
        rw [List.mem_range] at hk
        by_cases hke : k = e
        · subst hke; simp [heun]
        · rw [hlist k hk hke]; simp [hke]
       rw [h1]
       rw [← List.countP_eq_length_filter]
       show List.count e (List.range i) = 1
       rw [List.Nodup.count List.nodup_range, if_pos (List.mem_range.2 hel)]
      rw [e2] at hc
      simp at hc
      omega
     subst hc0
     obtain ⟨k, hk, hJ, hpre⟩ := hI.at_
     have hkl : k = cs.length := by
      rcases Nat.lt_or_ge k cs.length with h | h
      · have h1 := hpre k h
        rw [hlist _ (G.inl k h) (fun h2 => by
         have h3 := G.ec
         rw [← h2] at h3
         rw [List.getElem?_eq_getElem h, Option.getD_some] at h3
         simp at h3)] at h1
        simp at h1
      · omega
     subst hkl
     obtain ⟨w', h1, h2, h3⟩ := hst a w hI.only hJ (fun j hj hje => hI.holds j hj (hlist j hj hje)) hI.frame om oe hom hoe
     unfold wpOp
     simp only [ho']
     rw [if_pos (by simp [Region.wanted, hmg])]
     refine .inl (h1 _ ?_)
     have hset : ∀ k, (listed.setIfInBounds i true).getD k false = if k = i then true else listed.getD k false := fun k => by
      by_cases hk : k = i
      · subst hk; simp [show k < listed.size by rw [hI.size]; exact hil]
      · rw [getD_set_ne false (Ne.symm hk), if_neg hk]
     have hsz : (listed.setIfInBounds i true).size = l.length := by simpa using hI.size
     have hun3 : ∀ j, j < l.length → (listed.setIfInBounds i true).getD j true = (listed.setIfInBounds i true).getD j false := fun j hjl => by simp [Array.getD, show j < listed.size by rw [hI.size]; exact hjl]
     have hei : e ≠ i := by omega
     have hr : ∀ j, j ∈ Region.ready .any l.toArray (listed.setIfInBounds i true) → j = e := fun j hj => by
      obtain ⟨g1, oj, hoj', hallj⟩ := mem_ready.1 hj
      have hoj : l[j]? = some oj := by simpa using hoj'
      have hjl : j < l.length := (List.getElem?_eq_some_iff.1 hoj).1
      rw [hun3 j hjl, hset j] at g1
      have hji : j ≠ i := fun h => by rw [if_pos h] at g1; cases g1
      rw [if_neg hji] at g1
      rcases Nat.lt_or_ge j i with h | h
      · by_cases hje : j = e
        · exact hje
        · rw [hlist j h hje] at g1; cases g1
      · exfalso
        by_cases hj1 : j = i + 1
        · subst hj1
          have := ba_ (G.tail1 oj hoj) hallj
          rw [hset e, if_neg hei, heun] at this; cases this
        · have := ba_ (G.tail j oj (by omega) hoj) hallj
          rw [hset (j - 1), if_neg (by omega), ht (j - 1) (by omega)] at this; cases this
     have hre : e ∈ Region.ready .any l.toArray (listed.setIfInBounds i true) := mem_ready.2 ⟨by
      rw [hun3 e hell, hset e, if_neg hei, heun], oe, by simpa using hoe, fun x he hbd => by
      have h4 := G.low e oe hoe x he hbd
      rw [hset x.on]
      by_cases hxi : x.on = i
      · rw [if_pos hxi]
      · rw [if_neg hxi]; exact hlist x.on (by omega) (by omega)⟩
     rw [show 0 + (l.length - i) = (l.length - (i + 1)) + 1 by omega]
     refine ⟨fun e1 => absurd hre (by rw [e1]; simp), fun j hj => ?_⟩
     rw [hr j hj]
     obtain ⟨heg, hed, hen⟩ := G.guard e oe hel hoe
     unfold wpOp
     simp only [show l.toArray[e]? = some oe by simpa using hoe]
     rw [if_pos (by simp [Region.wanted, heg])]
     refine .inl ?_
     unfold Oper.wp
     rw [h2]
     simp only [Oper.upon]
     rw [hed, hact a hI.defers hI.width hI.frame]
     refine j1_ G (l.length - (i + 1)) (i + 1) _ _ w' (by omega) (by omega) (by simpa using hI.size) (fun k hkl => ?_) h3
     by_cases hke : k = e
     · subst hke
       rw [show ((listed.setIfInBounds i true).setIfInBounds k true).getD k false = true by simp [show k < listed.size by rw [hI.size]; exact hkl]]
       simp; omega
     · rw [getD_set_ne false (Ne.symm hke), hset k]
       by_cases hki : k = i
       · rw [if_pos hki, hki]; simp
       · rw [if_neg hki]
         rcases Nat.lt_or_ge k i with h | h
         · rw [hlist k h hke]; simp; omega
         · rw [ht k h]; simp; omega
   have him : i < m := by omega
   obtain ⟨hg, hdo, hdn⟩ := G.guard i o him ho
   have hrl : ∀ j, d7_ l l.length i j = true → listed.getD j false = true := fun j hj => ej_ hcl l.length i o ho (fun k hk => ba_ hk hallr) j hj
   obtain ⟨k, hk, hJ, hpre⟩ := hI.at_
   have hkk : ∀ t, t < cs.length → d7_ l l.length i ((cs[t]?).getD 0) = true → t < k := fun t ht hr => by
    have h1 := hrl _ hr
    rw [hpre t ht] at h1
    simpa using h1
   have hat : ∀ t, t < cs.length → (cs[t]?).getD 0 = i → t = k := fun t ht hti => by
    have h1 := hpre t ht
    rw [hti, hunf] at h1
    have h2 : ¬ t < k := by simpa using h1.symm
    rcases Nat.eq_zero_or_pos t with h | h
    · omega
    · have h3 := G.chain t h ht
      rw [hti] at h3
      have := hkk (t - 1) (by omega) h3
      omega
   have hset : ∀ k, (listed.setIfInBounds i true).getD k false = if k = i then true else listed.getD k false := fun k => by
    by_cases hk : k = i
    · subst hk; simp [show k < listed.size by rw [hI.size]; exact hil]
    · rw [getD_set_ne false (Ne.symm hk), if_neg hk]
   unfold wpOp
   simp only [ho']
   rw [if_pos (by simp [Region.wanted, hg])]
   have hs := gq_ (l.take m) 0 hstep i o (by rw [List.getElem?_take_of_lt him]; exact ho) k a w hI.only hJ (by rw [Nat.zero_add]; exact hat) (by rw [Nat.zero_add]; exact hkk)
    (fun s hs => by
      have := hI.frame s (fun i hi e1 => by
       rw [List.all_eq_true] at hs
       have h1 := hs i (List.mem_range.2 hi)
       simp [e1] at h1)
      simpa only [Array.getD_eq_getD_getElem?] using this)
    (fun j hj hw => by
      have := hI.holds j hj (ba_ hw hallr)
      simpa only [Array.getD_eq_getD_getElem?] using this)
   rw [Nat.zero_add] at hs
   refine .inl (ub_ hs fun v w' hh => ?_)
   obtain ⟨hf, hon, hJ'⟩ := hh
   have hda : a1_ l i < a.tmps.size := by rw [hI.width]; exact hdn
   refine ih _ _ _ ?_ ?_ ?_ ⟨by simpa using hI.size, ?_, ?_, hI.only.trans hon, ?_, ?_, ?_⟩
   · have e2 : ((List.range m).filter fun k => (listed.setIfInBounds i true).getD k false == false) = ((List.range m).filter fun k => listed.getD k false == false).erase i := by
      rw [List.Nodup.erase_eq_filter (List.Nodup.sublist List.filter_sublist List.nodup_range), List.filter_filter]
      apply List.filter_congr
      intro k _
      rw [hset k]
      by_cases hk : k = i
      · subst hk; simp
      · simp [hk]
     rw [e2, List.length_erase_of_mem (List.mem_filter.2 ⟨List.mem_range.2 him, by rw [hunf]; rfl⟩)]
     omega
   · intro k hk
     rw [getD_set_ne false (by omega)]
     exact ht k hk
   · intro j o' k hjo hl hw
     by_cases hj : j = i
     · subst hj
       rw [ho] at hjo
       cases hjo
       exact getD_set_true (ba_ hw hallr)
     · rw [getD_set_ne false (Ne.symm hj)] at hl
       exact getD_set_true (hcl j o' k hjo hl hw)
   · rw [e2_.2, hI.defers]
   · rw [e2_.1, hI.width]
   · intro s hs
     rw [hdo, e0_ hda, if_neg (Ne.symm (hs i him)), hI.frame s hs]
   · intro j hj hl
     by_cases hji : j = i
     · subst hji
       rw [hdo, e0_ hda, if_pos rfl]
       exact hf
     · rw [getD_set_ne false (Ne.symm hji)] at hl
       rw [hdo, e0_ hda, if_neg (fun e1 => apart j i hj him e1 hji)]
       exact (dz_ F j).grow hon (hI.holds j hj hl)
   · by_cases hic : cs.contains i = true
     · have hic2 : i ∈ cs := by simpa using hic
       obtain ⟨t, ht, hti⟩ := List.getElem_of_mem hic2
       have hti2 : (cs[t]?).getD 0 = i := by rw [List.getElem?_eq_getElem ht]; exact hti
       have htk := hat t ht hti2
       subst htk
       have hn : js_ cs i t = t + 1 := by unfold js_; rw [if_pos hic]
       rw [hn] at hJ'
       refine ⟨t + 1, ht, hJ', fun u hu => ?_⟩
       rw [hset]
       by_cases e1 : (cs[u]?).getD 0 = i
       · rw [if_pos e1, hat u hu e1]; simp
       · rw [if_neg e1, hpre u hu]
         have : u ≠ t := fun h => e1 (by rw [h]; exact hti2)
         simp; omega
     · have hn : js_ cs i k = k := by unfold js_; rw [if_neg hic]
       rw [hn] at hJ'
       refine ⟨k, hk, hJ', fun u hu => ?_⟩
       rw [hset]
       have e1 : ¬ (cs[u]?).getD 0 = i := fun e1 => hic (by
        rw [← e1, List.getElem?_eq_getElem hu]
        simp)
       rw [if_neg e1]
       exact hpre u hu
 have e00 : ∀ i, (Array.replicate l.toArray.size false).getD i false = false := fun i => by simp [Array.getD]
 have hc1 : ((List.range m).filter fun i => (Array.replicate l.toArray.size false).getD i false == false).length = m := by
  rw [List.filter_eq_self.2 (fun i _ => by rw [e00]; rfl)]; simp
 have := key m (Array.replicate l.toArray.size false) a0 { w0 with drawn := w0.drawn + 1 } hc1 (fun i _ => e00 i) (fun j o i _ h => by (rw [e00] at h; cases h))
  ⟨by simp, rfl, rfl, hW, fun _ _ => rfl, fun i _ h => (by rw [e00] at h; cases h), ⟨0, Nat.zero_le _, h0, fun t _ => by rw [e00]; simp⟩⟩
 rw [show m + (l.length - m) = l.toArray.size by simp; omega] at this
 exact this
end
end
section
open Go.RowKit
abbrev z_ (a : Act) (n : Nat) (v : Value) : Prop := a.tmps[n]?.getD undef = v
abbrev zp_ (a : Act) (n b o : Nat) : Prop := a.tmps[n]?.getD undef = .pointer (some ⟨b, o, none⟩)
abbrev SFact.pt {S : Nat → Prop} (b o : Nat) : SFact S := .val (.pointer (some ⟨b, o, none⟩))
abbrev Fact.pt (b o : Nat) : Fact := .val (.pointer (some ⟨b, o, none⟩))
theorem at_b {w w' : World} {b : Nat} {o : Obj} (hb : Below w.heap.size w w') (h : w.heap[b]? = some o) : w'.heap[b]? = some o := (hb.block _ (lt_of_block h)).trans h
theorem h1_ {p : Prop} (h : p) : Hid p := h
theorem dp_ {P : Program} {o : Oper} {a : Act} {w : World} {v0 : Value} {S : Nat → Prop} {Q : World → Prop} (hJ : Q w) (he : (execOp a.eval o).run P w = .ok (.value v0) w) : opDo P o a w fun v w' => (SFact.val (S := S) v0).holds v w' ∧ Only S w w' ∧ Q w' :=
 bc_ he ⟨rfl, Only.refl _ _, hJ⟩
theorem gp_ {P : Program} {o : Oper} {a : Act} {w : World} {v0 : Value} {ds : List Value} {R : Value → World → Prop} (he : (execOp a.eval o).run P w = .ok (.value v0) w) : e7_ P o a w fun v w' => Fact.says (.val v0) (v :: ds) w' ∧ (Fact.isNew (.val v0) = true → R v w') :=
 av_ he (Below.refl _ _) ⟨rfl, fun h => by cases h⟩
def actV {S : Nat → Prop} : Act → (Tmp → Value) → List Tmp → List (SFact S) → Act
 | a, f, s :: r, .val v :: F => actV (a.put (some s) v) f r F
 | a, f, s :: r, .more _ _ :: F => actV (a.put (some s) (f s)) f r F
 | a, _, _, _ => a
theorem p2_ {S : Nat → Prop} {f : Tmp → Value} {w : World} : ∀ (d : List Tmp) (F : List (SFact S)) (a : Act), F.length = d.length → (∀ i (h : i < d.length), (dz_ F i).holds (f d[i]) w) → dw_ a f d = actV a f d F
 | [], [], a, _, _ => rfl
 | s :: r, .val v :: F, a, hl, h => by
  have h0 : f s = v := h 0 (by simp)
  have := p2_ r F (a.put (some s) v) (by simpa using hl) (fun i hi => h (i + 1) (by simpa using hi))
  simp only [actV]
  rw [← this]
  simp [dw_, h0]
 | s :: r, .more R hR :: F, a, hl, h => by
  have := p2_ r F (a.put (some s) (f s)) (by simpa using hl) (fun i hi => h (i + 1) (by simpa using hi))
  simp only [actV]
  rw [← this]
  simp [dw_]
theorem seqv {S : Nat → Prop} {F : List (SFact S)} {l : List Oper} {f : Tmp → Value} {w : World} {m : Nat} (h : ∀ i, i < m → (dz_ F i).holds (f (a1_ l i)) w) (d : List Tmp) (hd : (List.range m).map (a1_ l) = d) (hF : F.length = m := by rfl) (a : Act) :
 dw_ a f ((List.range m).map (a1_ l)) = actV a f d F := by
 subst hd
 exact p2_ _ F a (by simpa using hF) (fun i hi => by simpa using h i (by simpa using hi))
def actG : Act → (Tmp → Value) → List Tmp → List Fact → Act
 | a, f, s :: r, .val v :: F => actG (a.put (some s) v) f r F
 | a, f, s :: r, .blk _ _ :: F => actG (a.put (some s) (f s)) f r F
 | a, f, s :: r, .fn _ _ :: F => actG (a.put (some s) (f s)) f r F
 | a, f, s :: r, .more _ _ :: F => actG (a.put (some s) (f s)) f r F
 | a, _, _, _ => a
theorem v8_ {f : Tmp → Value} : ∀ (d : List Tmp) (F : List Fact) (a : Act), F.length = d.length → (∀ i (h : i < d.length) v, cy_ F i = .val v → f d[i] = v) → dw_ a f d = actG a f d F
 | [], [], a, _, _ => rfl
 | s :: r, x :: F, a, hl, h => by
  have h0 : ∀ v, x = .val v → f s = v := fun v hv => h 0 (by simp) v (by simpa [cy_] using hv)
  have ih : ∀ a', dw_ a' f r = actG a' f r F := fun a' => v8_ r F a' (by simpa using hl) (fun i hi v hv => h (i + 1) (by simpa using hi) v (by simpa [cy_] using hv))
  cases x with
  | val v => simp only [actG]; rw [← ih, ← h0 v rfl]; simp [dw_]
  | blk m o => simp only [actG]; rw [← ih]; simp [dw_]
  | fn ds g => simp only [actG]; rw [← ih]; simp [dw_]
  | more R hR => simp only [actG]; rw [← ih]; simp [dw_]
theorem facv {F : List Fact} {l : List Oper} {f : Tmp → Value} {w : World} (h : ∀ i, i < F.length → (cy_ F i).says ((fk_ l F i).map f) w) (d : List Tmp) (hd : (List.range F.length).map (a1_ l) = d) (a : Act) :
 dw_ a f ((List.range F.length).map (a1_ l)) = actG a f d F := by
 subst hd
 refine v8_ _ F a (by simp) (fun i hi v hv => ?_)
 have := h i (by simpa using hi)
 rw [hv] at this
 simpa [fk_, Fact.says] using this
theorem sr_ {P : Program} {ops : Array Oper} {Q : Exit → Act → World → Prop} {d : Option Tmp} {ty tp : TypeId} {x y : Operand} {pos : String} {af : Array Edge} {rest : List Oper} {a : Act} {w : World} {g : Nat} {cells old : Array Value} {t : TypeId}
 (hx : a.eval x = .pointer (some ⟨g, 0, none⟩)) (hy : a.eval y = .agg cells)
 (hg : w.heap[g]? = some (.cells old t (0, 0)) := by (repeat (first | assumption | exact heap_alloc_new _ _ | refine ae_ ?_ | refine az_ ?_ | apply setRow_heap | (refine (setRow_other _ _ _ _ ?_).trans ?_; omega))))
 (hi : (P.info? ty).map (·.size) = some cells.size := by kernel_rfl) (hold : old.size = cells.size := by rfl) (h1 : cells.all (·.oneCell') = true := by simp [Value.oneCell'])
 (h : wpList P ops Q rest (a.put d undef) (w.setRow g cells)) : wpList P ops Q (⟨d, .store ty x y, tp, pos, af, none⟩ :: rest) a w :=
 wpList_store_row rfl ty x y rfl g cells hx hy t old hg hi hold h1 h
section
variable {P : Program} {l : List Oper} {m n : Nat} {cs : List Nat} {S : Nat → Prop} {F : List (SFact S)} {J : Nat → World → Prop}
def a4_ (P : Program) (l : List Oper) (m : Nat) (cs : List Nat) (F : List (SFact S)) (J : Nat → World → Prop) (a0 : Act) (w0 : World) : List Oper → Nat → Prop
 | [], _ => True
 | o :: r, i => (∀ (k : Nat) (a : Act) (w : World), Only S w0 w → J k w → (∀ t, t < cs.length → (cs[t]?).getD 0 = i → t = k) → (∀ t, t < cs.length → d7_ l l.length i ((cs[t]?).getD 0) = true → t < k) →
  (∀ s, (hs : (List.range m).all (fun i => !(a1_ l i == s)) = true := by kernel_rfl) → a.tmps[s]?.getD undef = a0.tmps[s]?.getD undef) →
  (∀ j, (hj : j < m := by decide) → (hw : bl_ o j = true := by kernel_rfl) → (dz_ F j).holds (a.tmps[a1_ l j]?.getD undef) w) → opDo P o a w fun v w' => (dz_ F i).holds v w' ∧ Only S w w' ∧ J (js_ cs i k) w') ∧
  a4_ P l m cs F J a0 w0 r (i + 1)
theorem kc_ {a0 : Act} {w0 : World} : ∀ (r : List Oper) (i : Nat), a4_ P l m cs F J a0 w0 r i → hk_ P l m cs F J a0 w0 r i
 | [], _, _ => trivial
 | _ :: r, i, h => ⟨h.1, kc_ r (i + 1) h.2⟩
theorem wq_ {id : Nat} {Q : Exit → Act → World → Prop} {a0 : Act} {w0 : World} (m : Nat) (cs : List Nat) (S : Nat → Prop) (F : List (SFact S)) (J : Nat → World → Prop)
 (hm : P.follows .mixedOrders = true) (hG : seqB l m a0.tmps.size cs = true) (h0 : J 0 w0.drew) (hstep : a4_ P l m cs F J a0 w0 (l.take m) 0)
 (hend : ∀ (f : Tmp → Value) (w : World), Only S w0 w → J cs.length w → (∀ i, i < m → (dz_ F i).holds (f (a1_ l i)) w) →
   wpList P l.toArray Q (l.drop m) (dw_ a0 f ((List.range m).map (a1_ l))) w) :
 (Code.region id l.toArray true).wp P Q a0 w0 := ls_ m cs S F J hm hG h0 (kc_ _ _ hstep) hend
theorem wl_ {id : Nat} {Q : Exit → Act → World → Prop} {a0 : Act} {w0 : World} (m : Nat) (e : Nat) (cs : List Nat) (S : Nat → Prop) (F : List (SFact S)) (J : Nat → World → Prop) (ve : Value)
 (hm : P.follows .mixedOrders = true) (hG : lateB l m a0.tmps.size cs e = true) (h0 : J 0 w0.drew) (hstep : a4_ P l m cs F J a0 w0 (l.take m) 0) (hFe : dz_ F e = .val ve)
 (hst : ∀ (a : Act) (w : World), Only S w0 w → J cs.length w → (∀ i, i < m → i ≠ e → (dz_ F i).holds (a.tmps.getD (a1_ l i) undef) w) → (∀ s, (∀ i, i < m → a1_ l i ≠ s) → a.tmps.getD s undef = a0.tmps.getD s undef) → ∀ om oe, l[m]? = some om → l[e]? = some oe →
   ∃ w', (∀ K : Act → World → Prop, K a w' → om.wp P a w K Q) ∧ ((execOp a.eval oe).run P w' = .ok (.value ve) w') ∧
    wpList P l.toArray Q (l.drop (m + 1)) (dw_ a0 (fun s => if s = a1_ l e then ve else a.tmps.getD s undef) ((List.range m).map (a1_ l))) w') :
 (Code.region id l.toArray true).wp P Q a0 w0 := kn_ m e cs S F J ve hm hG h0 (kc_ _ _ hstep) hFe hst
def ck_ (P : Program) (l : List Oper) (Fs : List Fact) (a0 : Act) (w0 : World) : List Oper → Nat → Prop
 | [], _ => True
 | o :: r, i => (∀ (a : Act) (w : World), Below w0.heap.size w0 w → (∀ s, (hs : ∀ i, i < Fs.length → a1_ l i ≠ s := by decide +kernel) → a.tmps[s]?.getD undef = a0.tmps[s]?.getD undef) →
  (∀ j, (hj : j < Fs.length := by simp) → (hw : bl_ o j = true := by kernel_rfl) → (cy_ Fs j).says ((fk_ l Fs j).map fun s => a.tmps[s]?.getD undef) w) →
  e7_ P o a w fun v w' => (cy_ Fs i).says (v :: (cy_ Fs i).deps.map fun s => a.tmps[s]?.getD undef) w' ∧ ((cy_ Fs i).isNew = true → ∀ b, dx_ v = some b → w.heap.size ≤ b ∧ b < w'.heap.size)) ∧
  ck_ P l Fs a0 w0 r (i + 1)
theorem oj_ {Fs : List Fact} {a0 : Act} {w0 : World} : ∀ (r : List Oper) (i : Nat), ck_ P l Fs a0 w0 r i → iw_ P l Fs a0 w0 r i
 | [], _, _ => trivial
 | _ :: r, i, h => ⟨h.1, oj_ r (i + 1) h.2⟩
theorem wr_ {id : Nat} {l : List Oper} {Q : Exit → Act → World → Prop} {a0 : Act} {w0 : World} (Fs : List Fact)
 (hm : P.follows .mixedOrders = true) (hG : growB l Fs.length a0.tmps.size (fk_ l Fs) = true)
 (hstep : ck_ P l Fs a0 w0 (l.take Fs.length) 0)
 (hend : ∀ (f : Tmp → Value) (w : World), Below w0.heap.size w0 w → (∀ i, i < Fs.length → (cy_ Fs i).says ((fk_ l Fs i).map f) w) →
   (∀ i, i < Fs.length → (cy_ Fs i).isNew = true → ∀ b, dx_ (f (a1_ l i)) = some b → w0.heap.size ≤ b ∧ b < w.heap.size) →
   (∀ i j, i < Fs.length → j < Fs.length → (cy_ Fs i).isNew = true → (cy_ Fs j).isNew = true → i ≠ j → ∀ b, dx_ (f (a1_ l i)) = some b → dx_ (f (a1_ l j)) ≠ some b) →
   wpList P l.toArray Q (l.drop Fs.length) (dw_ a0 f ((List.range Fs.length).map (a1_ l))) w) :
 (Code.region id l.toArray true).wp P Q a0 w0 := jg_ Fs hm hG (oj_ _ _ hstep) hend
end
variable {A B C D E F G H I J K L M N : Prop}
theorem h2_ (a : A) (b : B) : Hid (A ∧ B) := ⟨a, b⟩
theorem h3_ (a : A) (b : B) (c : C) : Hid (A ∧ B ∧ C) := ⟨a, b, c⟩
theorem h4_ (a : A) (b : B) (c : C) (d : D) : Hid (A ∧ B ∧ C ∧ D) := ⟨a, b, c, d⟩
theorem h5_ (a : A) (b : B) (c : C) (d : D) (e : E) : Hid (A ∧ B ∧ C ∧ D ∧ E) := ⟨a, b, c, d, e⟩
theorem h6_ (a : A) (b : B) (c : C) (d : D) (e : E) (f : F) : Hid (A ∧ B ∧ C ∧ D ∧ E ∧ F) := ⟨a, b, c, d, e, f⟩
theorem h7_ (a : A) (b : B) (c : C) (d : D) (e : E) (f : F) (g : G) : Hid (A ∧ B ∧ C ∧ D ∧ E ∧ F ∧ G) := ⟨a, b, c, d, e, f, g⟩
theorem h8_ (a : A) (b : B) (c : C) (d : D) (e : E) (f : F) (g : G) (h : H) : Hid (A ∧ B ∧ C ∧ D ∧ E ∧ F ∧ G ∧ H) := ⟨a, b, c, d, e, f, g, h⟩
theorem h9_ (a : A) (b : B) (c : C) (d : D) (e : E) (f : F) (g : G) (h : H) (i : I) : Hid (A ∧ B ∧ C ∧ D ∧ E ∧ F ∧ G ∧ H ∧ I) := ⟨a, b, c, d, e, f, g, h, i⟩
theorem h10_ (a : A) (b : B) (c : C) (d : D) (e : E) (f : F) (g : G) (h : H) (i : I) (j : J) : Hid (A ∧ B ∧ C ∧ D ∧ E ∧ F ∧ G ∧ H ∧ I ∧ J) := ⟨a, b, c, d, e, f, g, h, i, j⟩
theorem h11_ (a : A) (b : B) (c : C) (d : D) (e : E) (f : F) (g : G) (h : H) (i : I) (j : J) (k : K) : Hid (A ∧ B ∧ C ∧ D ∧ E ∧ F ∧ G ∧ H ∧ I ∧ J ∧ K) := ⟨a, b, c, d, e, f, g, h, i, j, k⟩
theorem h12_ (a : A) (b : B) (c : C) (d : D) (e : E) (f : F) (g : G) (h : H) (i : I) (j : J) (k : K) (l : L) : Hid (A ∧ B ∧ C ∧ D ∧ E ∧ F ∧ G ∧ H ∧ I ∧ J ∧ K ∧ L) := ⟨a, b, c, d, e, f, g, h, i, j, k, l⟩
end
end Go.Proofs.YtacaejpamidkcaaGreatDoor
