/- hold: instructions and their bytes. -/
import Derived.Test.YtkbilipgidcgeaaGreatDoorH34
set_option linter.unusedVariables false
set_option linter.unusedSimpArgs false
namespace Go.Proofs.YtkbilipgidcgeaaGreatDoor.Tiny
open Go.RowKit
attribute [local go_sem] ext_cell ext_frozen

/-- A right instruction. -/
def InsR.Right (x : InsR) : Prop := InsG (opF x.op.toNat) x.op x.a x.b x.c x.imm
def insCells (l : List InsR) : List Value := l.flatMap fun x => [.int .i64 x.op, .int .i64 x.a, .int .i64 x.b, .int .i64 x.c, .int .i64 x.imm]
def encI (x : InsR) : List UInt8 := encL x.op x.a x.b x.c x.imm
open Classical in
/-- What Encode gives. -/
noncomputable def encW (x : InsR) : List UInt8 := if x.Right then encI x else []

theorem insCells_length (l : List InsR) : (insCells l).length = l.length * 5 := by
  induction l with
  | nil => rfl
  | cons x l ih => simp [insCells] at ih ⊢; omega
theorem insCells_get : ∀ (l : List InsR) (k : Nat) (hk : k < l.length) (j : Nat), j < 5 → (insCells l)[k * 5 + j]? = [Value.int .i64 l[k].op, .int .i64 l[k].a, .int .i64 l[k].b, .int .i64 l[k].c, .int .i64 l[k].imm][j]? := by
  intro l
  induction l with
  | nil => intro k hk; simp at hk
  | cons x l ih =>
    intro k hk j hj
    unfold insCells at *
    cases k with
    | zero => simp only [List.flatMap_cons, Nat.zero_mul, Nat.zero_add, List.getElem_cons_zero]; rw [List.getElem?_append_left (by simp; omega)]
    | succ k =>
      simp only [List.flatMap_cons, List.getElem_cons_succ]
      rw [List.getElem?_append_right (by simp; omega), ← ih k (by simpa using hk) j hj]
      congr 1
      simp; omega

theorem append_str (l m : List UInt8) : (⟨l.toArray⟩ : ByteArray) ++ ⟨m.toArray⟩ = ⟨(l ++ m).toArray⟩ := by
  apply ByteArray.ext
  simp
theorem encI_length (x : InsR) : (encI x).length = 8 := by
  unfold encI encL
  rw [putL_length _ _ _ (by simp [wordL4])]
  rfl
theorem encW_length (x : InsR) : (encW x).length ≤ 8 := by
  unfold encW
  split
  · rw [encI_length]; omega
  · simp
theorem encW_right {x : InsR} (h : x.Right) : encW x = encI x := by unfold encW; rw [if_pos h]
theorem encW_wrong {x : InsR} (h : ¬ x.Right) : encW x = [] := by unfold encW; rw [if_neg h]
theorem encs_le : ∀ l : List InsR, (l.flatMap encW).length ≤ 8 * l.length
  | [] => by simp
  | x :: l => by
    have := encs_le l
    have := encW_length x
    rw [List.flatMap_cons, List.length_append, List.length_cons]
    omega
theorem encI_all (l : List InsR) : (l.flatMap encI).length = 8 * l.length := by
  induction l with
  | nil => rfl
  | cons x l ih => rw [List.flatMap_cons, List.length_append, ih, encI_length, List.length_cons]; omega
theorem encs_right : ∀ l : List InsR, (∀ x ∈ l, x.Right) → l.flatMap encW = l.flatMap encI
  | [], _ => rfl
  | x :: l, h => by
    rw [List.flatMap_cons, List.flatMap_cons, encW_right (h x (by simp)), encs_right l (fun y hy => h y (List.mem_cons_of_mem _ hy))]
theorem encs_full : ∀ l : List InsR, (l.flatMap encW).length = 8 * l.length → ∀ x ∈ l, x.Right
  | [], _ => fun x hx => by simp at hx
  | y :: l, h => by
    have h1 := encs_le l
    have h2 := encW_length y
    rw [List.flatMap_cons, List.length_append, List.length_cons] at h
    intro x hx
    rcases List.mem_cons.1 hx with rfl | hx
    · by_cases hr : x.Right
      · exact hr
      · rw [encW_wrong hr, List.length_nil] at h; omega
    · exact encs_full l (by omega) x hx

theorem decOk_enc (x : InsR) (h : x.Right) : DecOk (encI x) x := by
  have hf := h.im.fit
  refine ⟨⟨UInt8.ofNat x.op.toNat, UInt8.ofNat x.a.toNat, UInt8.ofNat x.b.toNat, UInt8.ofNat x.c.toNat, UInt8.ofNat ((x.imm / 2 ^ (8 * 0)) % 256).toNat, UInt8.ofNat ((x.imm / 2 ^ (8 * 1)) % 256).toNat, UInt8.ofNat ((x.imm / 2 ^ (8 * 2)) % 256).toNat, UInt8.ofNat ((x.imm / 2 ^ (8 * 3)) % 256).toNat, rfl, ?_, ?_, ?_, ?_, ?_⟩, h⟩
  · exact (byte_nat x.op (by have := h.lo; omega) (by have := h.hi; omega)).symm
  · exact (byte_nat x.a h.fa.2.1 (by have := h.fa.2.2; omega)).symm
  · exact (byte_nat x.b h.fb.2.1 (by have := h.fb.2.2; omega)).symm
  · exact (byte_nat x.c h.fc.2.1 (by have := h.fc.2.2; omega)).symm
  · exact sgn32_low x.imm hf.1 hf.2

/-- A list of instructions in memory. -/
def InsV (h0 : Nat) (w : World) (v : Value) (l : List InsR) : Prop := (v = .slice none 0 0 ∧ l = []) ∨ ∃ g o cap, v = .slice (some ⟨g, o, none⟩) l.length cap ∧ g < h0 ∧ ∀ j u, (insCells l)[j]? = some u → w.cell? ⟨g, o + j, none⟩ = some u
theorem InsV.below {h0 : Nat} {w w' : World} {v : Value} {l : List InsR} (h : InsV h0 w v l) (hb : Below h0 w w') : InsV h0 w' v l := by
  rcases h with h | ⟨g, o, cap, h1, h2, h3⟩
  · exact .inl h
  · exact .inr ⟨g, o, cap, h1, h2, fun j v hv => (hb.cell (p := ⟨g, o + j, none⟩) h2).trans (h3 j v hv)⟩
theorem ins_range {w : World} {g o : Nat} {l : List InsR} (h : ∀ j u, (insCells l)[j]? = some u → w.cell? ⟨g, o + j, none⟩ = some u) (k : Nat) (hk : k < l.length) : w.rangeAt g (o + k * 5) [.int .i64 l[k].op, .int .i64 l[k].a, .int .i64 l[k].b, .int .i64 l[k].c, .int .i64 l[k].imm] := by
  intro j v hv
  have hj : j < 5 := (List.getElem?_eq_some_iff.1 hv).1
  rw [Nat.add_assoc]
  exact h _ _ ((insCells_get l k hk j hj).trans hv)
theorem ins_len (a b c d e : Int) : (Tryz.prog.info? 67).map (·.size) = some [Value.int .i64 a, .int .i64 b, .int .i64 c, .int .i64 d, .int .i64 e].length := by kernel_rfl
end Go.Proofs.YtkbilipgidcgeaaGreatDoor.Tiny
