/- word.Fits, isa.imm, isa.Right at any instruction. isa.Right at any instruction. isa.Decode at right instructions (calls too), isa.Encode at any instruction. -/
import Derived.Test.YtkbilipgidcgeaaGreatDoorH11
import Derived.Test.YtkbilipgidcgeaaGreatDoorH12
set_option linter.unusedVariables false
set_option linter.unusedSimpArgs false
namespace Go.Proofs.YtkbilipgidcgeaaGreatDoor
open Go.RowKit

attribute [local go_sem] ext_cell ext_frozen

def Fit32 (n : Int) : Prop := -2147483648 ≤ n ∧ n ≤ 2147483647

set_option maxRecDepth 100000 in
theorem fits_any (n : Int) (r : Bool) (w : World) (hr : r = true ↔ Fit32 n) :
    Calls Tryz.prog 168 #[.int .i64 n, .int .i64 32, .bool true] w fun e w' => e = .returned (.bool r) ∧ Below w.heap.size w w' := by
  have hd : n / 2147483648 = 0 ∨ n / 2147483648 = -1 ↔ Fit32 n := by unfold Fit32; omega
  rw [← hd] at hr
  obtain ⟨q, hq⟩ : ∃ q, q = n / 2147483648 := ⟨_, rfl⟩
  rw [← hq] at hr
  by_cases h0 : q = 0
  · rw [hr.2 (.inl h0)]
    go_enter Tryz.func168, Tryz.ntmps168
    rw [hq] at h0
    go_wp2
    go_ret
    exact ⟨by simp, Below.refl _ _⟩
  · by_cases h1 : q = -1
    · rw [hr.2 (.inr h1)]
      rw [hq] at h0 h1
      go_enter Tryz.func168, Tryz.ntmps168
      go_wp2
      go_ret
      exact ⟨by simp, Below.refl _ _⟩
    · have : r = false := by
        cases r with
        | false => rfl
        | true => rcases hr.1 rfl with h | h <;> contradiction
      rw [this]
      rw [hq] at h0 h1
      have b0 : (n / 2147483648 == 0) = false := by simpa using h0
      have b1 : (n / 2147483648 == -1) = false := by simpa using h1
      go_enter Tryz.func168, Tryz.ntmps168
      go_wp2
      go_ret
      exact ⟨by simp [b0, b1], Below.refl _ _⟩

/-- The Imm of an instruction is possible. -/
def ImmG (op imm : Int) : Prop :=
  if op = 19 ∨ op = 20 ∨ op = 21 ∨ op = 24 ∨ op = 25 then imm.tmod 8 = 0 ∧ Fit32 imm else if op = 22 then imm.tmod 8 = 0 ∧ -512 ≤ imm ∧ imm ≤ 504 else if op = 30 then 0 ≤ imm ∧ imm < 8 else Fit32 imm

theorem ImmG.fit {op imm : Int} (h : ImmG op imm) : Fit32 imm := by
  unfold ImmG at h
  unfold Fit32 at *
  split at h
  · exact h.2
  · split at h
    · omega
    · split at h
      · omega
      · exact h

set_option maxRecDepth 100000 in
set_option maxHeartbeats 2000000 in
theorem imm_any (op a b c imm : Int) (r : Bool) (w : World) (hr : r = true ↔ ImmG op imm) :
    Calls Tryz.prog 165 #[insV op a b c imm] w fun e w' => e = .returned (.bool r) ∧ Below w.heap.size w w' := by
  unfold insV
  unfold ImmG at hr
  by_cases hj : op = 19 ∨ op = 20 ∨ op = 21 ∨ op = 24 ∨ op = 25
  · rw [if_pos hj] at hr
    by_cases hm : imm.tmod 8 = 0
    · have hr' : r = true ↔ Fit32 imm := by rw [hr]; exact ⟨fun h => h.2, fun h => ⟨hm, h⟩⟩
      clear hr
      rcases hj with rfl | rfl | rfl | rfl | rfl
      all_goals
        go_enter Tryz.func165, Tryz.ntmps165
        go_wp2_with (go_at_call 168; refine (fits_any _ r _ hr').mono ?_; rintro e w1 ⟨rfl, hb1⟩; have HB1 := Lib.hid hb1; clear hb1)
        go_ret
        exact ⟨by simp, below_call ((Below.refl _ _).alloc (Nat.le_refl _) _) HB1.out⟩
    · have hf : r = false := by
        cases r with
        | false => rfl
        | true => exact absurd (hr.1 rfl).1 hm
      have hm' : (imm.tmod 8 == 0) = false := by simpa using hm
      rw [hf]
      clear hr
      rcases hj with rfl | rfl | rfl | rfl | rfl
      all_goals
        go_enter Tryz.func165, Tryz.ntmps165
        go_wp2
        go_ret
        exact ⟨by simp, (Below.refl _ _).alloc (Nat.le_refl _) _⟩
  · rw [if_neg hj] at hr
    have n19 : (op == 19) = false := by simp; omega
    have n20 : (op == 20) = false := by simp; omega
    have n21 : (op == 21) = false := by simp; omega
    have n24 : (op == 24) = false := by simp; omega
    have n25 : (op == 25) = false := by simp; omega
    by_cases h22 : op = 22
    · rw [if_pos h22] at hr
      subst h22
      clear n19 n20 n21 n24 n25
      by_cases hm : imm.tmod 8 = 0
      · by_cases h1 : -512 ≤ imm
        · have hr' : r = decide (imm ≤ 504) := by
            have : (r = true) ↔ (decide (imm ≤ 504) = true) := by rw [hr]; simp [hm, h1]
            cases r <;> cases hd : decide (imm ≤ 504) <;> simp_all
          rw [hr']
          clear hr hr' hj
          go_enter Tryz.func165, Tryz.ntmps165
          go_wp2
          go_ret
          exact ⟨by simp, (Below.refl _ _).alloc (Nat.le_refl _) _⟩
        · have hf : r = false := by
            cases r with
            | false => rfl
            | true => exact absurd (hr.1 rfl).2.1 h1
          rw [hf]
          clear hr hj
          go_enter Tryz.func165, Tryz.ntmps165
          go_wp2
          go_ret
          exact ⟨by simp, (Below.refl _ _).alloc (Nat.le_refl _) _⟩
      · have hf : r = false := by
          cases r with
          | false => rfl
          | true => exact absurd (hr.1 rfl).1 hm
        have hm' : (imm.tmod 8 == 0) = false := by simpa using hm
        rw [hf]
        clear hr hj
        go_enter Tryz.func165, Tryz.ntmps165
        go_wp2
        go_ret
        exact ⟨by simp, (Below.refl _ _).alloc (Nat.le_refl _) _⟩
    · rw [if_neg h22] at hr
      have n22 : (op == 22) = false := by simpa using h22
      clear hj h22
      by_cases h30 : op = 30
      · rw [if_pos h30] at hr
        subst h30
        clear n19 n20 n21 n24 n25 n22
        by_cases h0 : 0 ≤ imm
        · have hr' : r = decide (imm < 8) := by
            have : (r = true) ↔ (decide (imm < 8) = true) := by rw [hr]; simp [h0]
            cases r <;> cases hd : decide (imm < 8) <;> simp_all
          rw [hr']
          clear hr hr'
          go_enter Tryz.func165, Tryz.ntmps165
          go_wp2
          go_ret
          exact ⟨by simp, (Below.refl _ _).alloc (Nat.le_refl _) _⟩
        · have hf : r = false := by
            cases r with
            | false => rfl
            | true => exact absurd (hr.1 rfl).1 h0
          rw [hf]
          clear hr
          go_enter Tryz.func165, Tryz.ntmps165
          go_wp2
          go_ret
          exact ⟨by simp, (Below.refl _ _).alloc (Nat.le_refl _) _⟩
      · rw [if_neg h30] at hr
        have n30 : (op == 30) = false := by simpa using h30
        clear h30
        go_enter Tryz.func165, Tryz.ntmps165
        go_wp2_with (go_at_call 168; refine (fits_any _ r _ hr).mono ?_; rintro e w1 ⟨rfl, hb1⟩; have HB1 := Lib.hid hb1; clear hb1)
        go_ret
        exact ⟨rfl, below_call ((Below.refl _ _).alloc (Nat.le_refl _) _) HB1.out⟩
end Go.Proofs.YtkbilipgidcgeaaGreatDoor

namespace Go.Proofs.YtkbilipgidcgeaaGreatDoor
open Go.RowKit

attribute [local go_sem] ext_cell ext_frozen

def OkF (F : ByteArray) (x : UInt8) (n : Int) : Prop := (0 ≤ Lib.indexByte F.data.toList x ∨ n = 0) ∧ 0 ≤ n ∧ n ≤ 15
/-- A right instruction whose form has the operands F. -/
structure InsG (F : ByteArray) (op a b c imm : Int) : Prop where
  lo : 0 < op
  hi : op < 31
  im : ImmG op imm
  fa : OkF F 65 a
  fb : OkF F 66 b
  fc : OkF F 67 c
  fi : 0 ≤ Lib.indexByte F.data.toList 73 ∨ imm = 0

theorem no_r {r : Bool} {P : Prop} (hr : r = true ↔ P) (h : ¬ P) : r = false := by
  cases r with
  | false => rfl
  | true => exact absurd (hr.1 rfl) h

set_option maxRecDepth 100000 in
set_option maxHeartbeats 4000000 in
theorem right_any (op a b c imm : Int) (r : Bool) (w : World) (hf : Forms w) (hr : r = true ↔ InsG (opF op.toNat) op a b c imm) :
    Calls Tryz.prog 72 #[insV op a b c imm] w fun e w' => e = .returned (.bool r) ∧ Below w.heap.size w w' := by
  have h0 := hf.pos
  have HH := Lib.hid (And.intro hr hf)
  clear hr hf
  have hcv := fun (w : World) (C : Array Value) (n c : Nat) => Lib.run_convert_bytes_const (P := Tryz.prog) w 76 5 C n c Tryz.underlying76 Tryz.underlying5
  unfold insV
  by_cases hlo : 0 < op
  case neg =>
    have hle : op ≤ 0 := by omega
    go_enter Tryz.func72, Tryz.ntmps72
    go_wp2
    go_ret
    rw [no_r HH.out.1 (fun h => by have := h.lo; omega)]
    exact ⟨rfl, (Below.refl _ _).alloc (Nat.le_refl _) _⟩
  by_cases hhi : op < 31
  case neg =>
    have hge : 31 ≤ op := by omega
    go_enter Tryz.func72, Tryz.ntmps72
    go_wp2
    go_ret
    rw [no_r HH.out.1 (fun h => by have := h.hi; omega)]
    exact ⟨rfl, (Below.refl _ _).alloc (Nat.le_refl _) _⟩
  have nlo : ¬ op ≤ 0 := by omega
  have nhi : ¬ 31 ≤ op := by omega
  by_cases him : ImmG op imm
  case neg =>
    have him' : (false : Bool) = true ↔ ImmG op imm := ⟨(by simp), fun h => absurd h him⟩
    go_enter Tryz.func72, Tryz.ntmps72
    go_wp2_with fail
    go_at_call 165
    refine (imm_any _ _ _ _ _ false _ him').mono ?_
    rintro e w1 ⟨rfl, hb1⟩
    have HB1 := Lib.hid hb1
    clear hb1
    go_wp2
    go_ret
    rw [no_r HH.out.1 (fun h => him h.im)]
    exact ⟨rfl, below_call ((Below.refl _ _).alloc (Nat.le_refl _) _) HB1.out⟩
  have HM := Lib.hid him
  clear him
  obtain ⟨F, hFe⟩ : ∃ F, F = opF op.toNat := ⟨_, rfl⟩
  have hF := HH.out.2.get op.toNat (by omega)
  rw [← hFe] at hF
  have HR0 := Lib.hid (And.intro HH.out.1 hFe)
  clear hFe
  go_enter Tryz.func72, Tryz.ntmps72
  go_wp2_with fail
  go_at_call 165
  refine (imm_any _ _ _ _ _ true _ ⟨fun _ => HM.out, fun _ => rfl⟩).mono ?_
  rintro e w1 ⟨rfl, hb1⟩
  have hn1 := new_block hb1
  have hsz1 := size_call hb1
  have hb01 := below_call ((Below.refl _ _).alloc (Nat.le_refl _) _) hb1
  have hF1 := (hb01.cell (p := ⟨0, op.toNat * 4 + 1, none⟩) h0).trans hF
  have HB1 := Lib.hid (And.intro hb01 hn1)
  clear hb1 hb01 hn1
  go_wp2
  have hW2 := heap_alloc_new w1 (.cells #[.int .u8 65, .int .u8 66, .int .u8 67, .int .u8 73] 5 (4, 5))
  have hF2 : (w1.alloc (.cells #[.int .u8 65, .int .u8 66, .int .u8 67, .int .u8 73] 5 (4, 5))).cell? ⟨0, op.toNat * 4 + 1, none⟩ = some (.string F) := by
    rw [World.cell?_alloc_past _ _ _ (by omega)]; exact hF1
  have hW1 := block_old (o' := .cells #[.int .u8 65, .int .u8 66, .int .u8 67, .int .u8 73] 5 (4, 5)) HB1.out.2
  have HW := Lib.hid (And.intro hF2 (And.intro hW1 (And.intro hW2 (HB1.out.1.alloc (by omega) (.cells #[.int .u8 65, .int .u8 66, .int .u8 67, .int .u8 73] 5 (4, 5))))))
  clear hF1 hF2 hW1 hW2
  go_loopw [23] (fun i wr => ∃ k : Nat, k ≤ 4 ∧ i = .int .i64 k ∧ Below (w1.alloc (.cells #[.int .u8 65, .int .u8 66, .int .u8 67, .int .u8 73] 5 (4, 5))).heap.size (w1.alloc (.cells #[.int .u8 65, .int .u8 66, .int .u8 67, .int .u8 73] 5 (4, 5))) wr ∧ (0 < k → OkF F 65 a) ∧ (1 < k → OkF F 66 b) ∧ (2 < k → OkF F 67 c) ∧ (3 < k → 0 ≤ Lib.indexByte F.data.toList 73 ∨ imm = 0)) (fun i _ => 4 - (intOf i).toNat)
  case atStart => exact ⟨0, by omega, rfl, Below.refl _ _, by omega, by omega, by omega, by omega⟩
  case round =>
    obtain ⟨k, hk, rfl, hb, hok⟩ := hrel
    have g1 := (hb.block _ (lt_of_block HW.out.2.1)).trans HW.out.2.1
    have g2 := (hb.block _ (lt_of_block HW.out.2.2.1)).trans HW.out.2.2.1
    have gF : wr.cell? ⟨0, op.toNat * 4 + 1, none⟩ = some (.string F) := (hb.cell (p := ⟨0, op.toNat * 4 + 1, none⟩) (by simp)).trans HW.out.1
    (have c0 := cell_l g1 0 rfl; have f0 := free_in g1 0; have c1 := cell_l g1 1 rfl; have f1 := free_in g1 1; have c2 := cell_l g1 2 rfl; have f2 := free_in g1 2; have c3 := cell_l g1 3 rfl; have f3 := free_in g1 3; have c4 := cell_l g1 4 rfl; have f4 := free_in g1 4)
    have x0 := cell_l g2 0 rfl
    have x1 := cell_l g2 1 rfl
    have x2 := cell_l g2 2 rfl
    have x3 := cell_l g2 3 rfl
    have HR := Lib.hid (And.intro hb (And.intro hok (HW.out.2.2.2.trans (hb.mono (by simp; omega)))))
    clear hb g1 g2 hok
    have hcases : k = 0 ∨ k = 1 ∨ k = 2 ∨ k = 3 ∨ k = 4 := by omega
    rcases hcases with rfl | rfl | rfl | rfl | rfl
    · by_cases hu : 0 ≤ Lib.indexByte F.data.toList 65
      · by_cases v0 : 0 ≤ a
        · by_cases v1 : a ≤ 15
          · have HO := Lib.hid (show OkF F 65 a from ⟨.inl hu, v0, v1⟩)
            go_wp2_with (first
              | (go_at_call 166; refine (ifield_any w.heap.size 0 (by omega) _).mono ?_; rintro e w2 ⟨rfl, rfl⟩)
              | (go_at_call 167; refine (Tryz.strings_IndexByte _ _ _).mono ?_; rintro e w3 ⟨rfl, rfl⟩))
            all_goals first | (exfalso; omega) | (refine ⟨⟨1, by omega, rfl, HR.out.1, fun _ => HO.out, by omega, by omega, by omega⟩, ?_⟩; simp [intOf])
          · have v2 : 15 < a := by omega
            have hrf : r = false := no_r (HR0.out.2 ▸ HR0.out.1) (fun h => v1 h.fa.2.2)
            have HRF := Lib.hid hrf
            clear hrf
            go_wp2_with (first
              | (go_at_call 166; refine (ifield_any w.heap.size 0 (by omega) _).mono ?_; rintro e w2 ⟨rfl, rfl⟩)
              | (go_at_call 167; refine (Tryz.strings_IndexByte _ _ _).mono ?_; rintro e w3 ⟨rfl, rfl⟩))
            all_goals first | (exfalso; omega) | (go_ret; rw [HRF.out]; exact ⟨rfl, HR.out.2.2⟩)
        · have v2 : a < 0 := by omega
          have hrf : r = false := no_r (HR0.out.2 ▸ HR0.out.1) (fun h => v0 h.fa.2.1)
          have HRF := Lib.hid hrf
          clear hrf
          go_wp2_with (first
            | (go_at_call 166; refine (ifield_any w.heap.size 0 (by omega) _).mono ?_; rintro e w2 ⟨rfl, rfl⟩)
            | (go_at_call 167; refine (Tryz.strings_IndexByte _ _ _).mono ?_; rintro e w3 ⟨rfl, rfl⟩))
          all_goals first | (exfalso; omega) | (go_ret; rw [HRF.out]; exact ⟨rfl, HR.out.2.2⟩)
      · have hu2 : decide (0 ≤ Lib.indexByte F.data.toList 65) = false := by simpa using hu
        by_cases v0 : a = 0
        · have HO := Lib.hid (show OkF F 65 a from ⟨.inr v0, by omega, by omega⟩)
          have hz : (a != 0) = false := by simpa using v0
          have v1 : 0 ≤ a := by omega
          have v2 : a ≤ 15 := by omega
          clear v0
          go_wp2_with (first
            | (go_at_call 166; refine (ifield_any w.heap.size 0 (by omega) _).mono ?_; rintro e w2 ⟨rfl, rfl⟩)
            | (go_at_call 167; refine (Tryz.strings_IndexByte _ _ _).mono ?_; rintro e w3 ⟨rfl, rfl⟩))
          all_goals first | (exfalso; omega) | (refine ⟨⟨1, by omega, rfl, HR.out.1, fun _ => HO.out, by omega, by omega, by omega⟩, ?_⟩; simp [intOf])
        · have hz : (a != 0) = true := by simpa using v0
          have hrf : r = false := no_r (HR0.out.2 ▸ HR0.out.1) (fun h => (h.fa.1).elim (fun x => hu x) (fun x => v0 x))
          have HRF := Lib.hid hrf
          clear hrf
          go_wp2_with (first
            | (go_at_call 166; refine (ifield_any w.heap.size 0 (by omega) _).mono ?_; rintro e w2 ⟨rfl, rfl⟩)
            | (go_at_call 167; refine (Tryz.strings_IndexByte _ _ _).mono ?_; rintro e w3 ⟨rfl, rfl⟩))
          all_goals first | (exfalso; omega) | (go_ret; rw [HRF.out]; exact ⟨rfl, HR.out.2.2⟩)
    · by_cases hu : 0 ≤ Lib.indexByte F.data.toList 66
      · by_cases v0 : 0 ≤ b
        · by_cases v1 : b ≤ 15
          · have HO := Lib.hid (show OkF F 66 b from ⟨.inl hu, v0, v1⟩)
            go_wp2_with (first
              | (go_at_call 166; refine (ifield_any w.heap.size 1 (by omega) _).mono ?_; rintro e w2 ⟨rfl, rfl⟩)
              | (go_at_call 167; refine (Tryz.strings_IndexByte _ _ _).mono ?_; rintro e w3 ⟨rfl, rfl⟩))
            all_goals first | (exfalso; omega) | (refine ⟨⟨2, by omega, rfl, HR.out.1, fun _ => HR.out.2.1.1 (by omega), fun _ => HO.out, by omega, by omega⟩, ?_⟩; simp [intOf])
          · have v2 : 15 < b := by omega
            have hrf : r = false := no_r (HR0.out.2 ▸ HR0.out.1) (fun h => v1 h.fb.2.2)
            have HRF := Lib.hid hrf
            clear hrf
            go_wp2_with (first
              | (go_at_call 166; refine (ifield_any w.heap.size 1 (by omega) _).mono ?_; rintro e w2 ⟨rfl, rfl⟩)
              | (go_at_call 167; refine (Tryz.strings_IndexByte _ _ _).mono ?_; rintro e w3 ⟨rfl, rfl⟩))
            all_goals first | (exfalso; omega) | (go_ret; rw [HRF.out]; exact ⟨rfl, HR.out.2.2⟩)
        · have v2 : b < 0 := by omega
          have hrf : r = false := no_r (HR0.out.2 ▸ HR0.out.1) (fun h => v0 h.fb.2.1)
          have HRF := Lib.hid hrf
          clear hrf
          go_wp2_with (first
            | (go_at_call 166; refine (ifield_any w.heap.size 1 (by omega) _).mono ?_; rintro e w2 ⟨rfl, rfl⟩)
            | (go_at_call 167; refine (Tryz.strings_IndexByte _ _ _).mono ?_; rintro e w3 ⟨rfl, rfl⟩))
          all_goals first | (exfalso; omega) | (go_ret; rw [HRF.out]; exact ⟨rfl, HR.out.2.2⟩)
      · have hu2 : decide (0 ≤ Lib.indexByte F.data.toList 66) = false := by simpa using hu
        by_cases v0 : b = 0
        · have HO := Lib.hid (show OkF F 66 b from ⟨.inr v0, by omega, by omega⟩)
          have hz : (b != 0) = false := by simpa using v0
          have v1 : 0 ≤ b := by omega
          have v2 : b ≤ 15 := by omega
          clear v0
          go_wp2_with (first
            | (go_at_call 166; refine (ifield_any w.heap.size 1 (by omega) _).mono ?_; rintro e w2 ⟨rfl, rfl⟩)
            | (go_at_call 167; refine (Tryz.strings_IndexByte _ _ _).mono ?_; rintro e w3 ⟨rfl, rfl⟩))
          all_goals first | (exfalso; omega) | (refine ⟨⟨2, by omega, rfl, HR.out.1, fun _ => HR.out.2.1.1 (by omega), fun _ => HO.out, by omega, by omega⟩, ?_⟩; simp [intOf])
        · have hz : (b != 0) = true := by simpa using v0
          have hrf : r = false := no_r (HR0.out.2 ▸ HR0.out.1) (fun h => (h.fb.1).elim (fun x => hu x) (fun x => v0 x))
          have HRF := Lib.hid hrf
          clear hrf
          go_wp2_with (first
            | (go_at_call 166; refine (ifield_any w.heap.size 1 (by omega) _).mono ?_; rintro e w2 ⟨rfl, rfl⟩)
            | (go_at_call 167; refine (Tryz.strings_IndexByte _ _ _).mono ?_; rintro e w3 ⟨rfl, rfl⟩))
          all_goals first | (exfalso; omega) | (go_ret; rw [HRF.out]; exact ⟨rfl, HR.out.2.2⟩)
    · by_cases hu : 0 ≤ Lib.indexByte F.data.toList 67
      · by_cases v0 : 0 ≤ c
        · by_cases v1 : c ≤ 15
          · have HO := Lib.hid (show OkF F 67 c from ⟨.inl hu, v0, v1⟩)
            go_wp2_with (first
              | (go_at_call 166; refine (ifield_any w.heap.size 2 (by omega) _).mono ?_; rintro e w2 ⟨rfl, rfl⟩)
              | (go_at_call 167; refine (Tryz.strings_IndexByte _ _ _).mono ?_; rintro e w3 ⟨rfl, rfl⟩))
            all_goals first | (exfalso; omega) | (refine ⟨⟨3, by omega, rfl, HR.out.1, fun _ => HR.out.2.1.1 (by omega), fun _ => HR.out.2.1.2.1 (by omega), fun _ => HO.out, by omega⟩, ?_⟩; simp [intOf])
          · have v2 : 15 < c := by omega
            have hrf : r = false := no_r (HR0.out.2 ▸ HR0.out.1) (fun h => v1 h.fc.2.2)
            have HRF := Lib.hid hrf
            clear hrf
            go_wp2_with (first
              | (go_at_call 166; refine (ifield_any w.heap.size 2 (by omega) _).mono ?_; rintro e w2 ⟨rfl, rfl⟩)
              | (go_at_call 167; refine (Tryz.strings_IndexByte _ _ _).mono ?_; rintro e w3 ⟨rfl, rfl⟩))
            all_goals first | (exfalso; omega) | (go_ret; rw [HRF.out]; exact ⟨rfl, HR.out.2.2⟩)
        · have v2 : c < 0 := by omega
          have hrf : r = false := no_r (HR0.out.2 ▸ HR0.out.1) (fun h => v0 h.fc.2.1)
          have HRF := Lib.hid hrf
          clear hrf
          go_wp2_with (first
            | (go_at_call 166; refine (ifield_any w.heap.size 2 (by omega) _).mono ?_; rintro e w2 ⟨rfl, rfl⟩)
            | (go_at_call 167; refine (Tryz.strings_IndexByte _ _ _).mono ?_; rintro e w3 ⟨rfl, rfl⟩))
          all_goals first | (exfalso; omega) | (go_ret; rw [HRF.out]; exact ⟨rfl, HR.out.2.2⟩)
      · have hu2 : decide (0 ≤ Lib.indexByte F.data.toList 67) = false := by simpa using hu
        by_cases v0 : c = 0
        · have HO := Lib.hid (show OkF F 67 c from ⟨.inr v0, by omega, by omega⟩)
          have hz : (c != 0) = false := by simpa using v0
          have v1 : 0 ≤ c := by omega
          have v2 : c ≤ 15 := by omega
          clear v0
          go_wp2_with (first
            | (go_at_call 166; refine (ifield_any w.heap.size 2 (by omega) _).mono ?_; rintro e w2 ⟨rfl, rfl⟩)
            | (go_at_call 167; refine (Tryz.strings_IndexByte _ _ _).mono ?_; rintro e w3 ⟨rfl, rfl⟩))
          all_goals first | (exfalso; omega) | (refine ⟨⟨3, by omega, rfl, HR.out.1, fun _ => HR.out.2.1.1 (by omega), fun _ => HR.out.2.1.2.1 (by omega), fun _ => HO.out, by omega⟩, ?_⟩; simp [intOf])
        · have hz : (c != 0) = true := by simpa using v0
          have hrf : r = false := no_r (HR0.out.2 ▸ HR0.out.1) (fun h => (h.fc.1).elim (fun x => hu x) (fun x => v0 x))
          have HRF := Lib.hid hrf
          clear hrf
          go_wp2_with (first
            | (go_at_call 166; refine (ifield_any w.heap.size 2 (by omega) _).mono ?_; rintro e w2 ⟨rfl, rfl⟩)
            | (go_at_call 167; refine (Tryz.strings_IndexByte _ _ _).mono ?_; rintro e w3 ⟨rfl, rfl⟩))
          all_goals first | (exfalso; omega) | (go_ret; rw [HRF.out]; exact ⟨rfl, HR.out.2.2⟩)
    · by_cases hu : 0 ≤ Lib.indexByte F.data.toList 73
      · have HO := Lib.hid (show 0 ≤ Lib.indexByte F.data.toList 73 ∨ imm = 0 from .inl hu)
        go_wp2_with (first
          | (go_at_call 166; refine (ifield_any w.heap.size 3 (by omega) _).mono ?_; rintro e w2 ⟨rfl, rfl⟩)
          | (go_at_call 167; refine (Tryz.strings_IndexByte _ _ _).mono ?_; rintro e w3 ⟨rfl, rfl⟩))
        all_goals first | (exfalso; omega) | (refine ⟨⟨4, by omega, rfl, HR.out.1, fun _ => HR.out.2.1.1 (by omega), fun _ => HR.out.2.1.2.1 (by omega), fun _ => HR.out.2.1.2.2.1 (by omega), fun _ => HO.out⟩, ?_⟩; simp [intOf])
      · have hu2 : decide (0 ≤ Lib.indexByte F.data.toList 73) = false := by simpa using hu
        by_cases v0 : imm = 0
        · have HO := Lib.hid (show 0 ≤ Lib.indexByte F.data.toList 73 ∨ imm = 0 from .inr v0)
          have hz : (imm != 0) = false := by simpa using v0
          clear v0
          go_wp2_with (first
            | (go_at_call 166; refine (ifield_any w.heap.size 3 (by omega) _).mono ?_; rintro e w2 ⟨rfl, rfl⟩)
            | (go_at_call 167; refine (Tryz.strings_IndexByte _ _ _).mono ?_; rintro e w3 ⟨rfl, rfl⟩))
          all_goals first | (exfalso; omega) | (refine ⟨⟨4, by omega, rfl, HR.out.1, fun _ => HR.out.2.1.1 (by omega), fun _ => HR.out.2.1.2.1 (by omega), fun _ => HR.out.2.1.2.2.1 (by omega), fun _ => HO.out⟩, ?_⟩; simp [intOf])
        · have hz : (imm != 0) = true := by simpa using v0
          have hrf : r = false := no_r (HR0.out.2 ▸ HR0.out.1) (fun h => (h.fi).elim (fun x => hu x) (fun x => v0 x))
          have HRF := Lib.hid hrf
          clear hrf
          go_wp2_with (first
            | (go_at_call 166; refine (ifield_any w.heap.size 3 (by omega) _).mono ?_; rintro e w2 ⟨rfl, rfl⟩)
            | (go_at_call 167; refine (Tryz.strings_IndexByte _ _ _).mono ?_; rintro e w3 ⟨rfl, rfl⟩))
          all_goals first | (exfalso; omega) | (go_ret; rw [HRF.out]; exact ⟨rfl, HR.out.2.2⟩)
    · go_wp2
      go_ret
      rw [HR0.out.1.2 (HR0.out.2 ▸ ⟨hlo, hhi, HM.out, HR.out.2.1.1 (by omega), HR.out.2.1.2.1 (by omega), HR.out.2.1.2.2.1 (by omega), HR.out.2.1.2.2.2 (by omega)⟩)]
      exact ⟨rfl, HR.out.2.2⟩
end Go.Proofs.YtkbilipgidcgeaaGreatDoor

namespace Go.Proofs.YtkbilipgidcgeaaGreatDoor
open Go.RowKit

attribute [local go_sem] ext_cell ext_frozen

set_option maxRecDepth 100000 in
set_option maxHeartbeats 1000000 in
theorem decode8G (x0 x1 x2 x3 x4 x5 x6 x7 : UInt8) (imm : Int) (w : World) (hf : Forms w) (himm : sgn32 (leN [x4, x5, x6, x7]) = imm)
    (h : InsG (opF x0.toNat) (x0.toNat : Int) (x1.toNat : Int) (x2.toNat : Int) (x3.toNat : Int) imm) :
    Calls Tryz.prog 92 #[.string ⟨#[x0, x1, x2, x3, x4, x5, x6, x7]⟩, .int .i64 0] w fun e w' =>
      Below w.heap.size w w' ∧ e = .returned (.tuple #[insV x0.toNat x1.toNat x2.toNat x3.toNat imm, .bool true]) := by
  have HI := Lib.hid himm
  have HH := Lib.hid h
  have HF := Lib.hid hf
  have hpos := hf.pos
  have n0 := x0.toNat_lt
  have n1 := x1.toNat_lt
  have n2 := x2.toNat_lt
  have n3 := x3.toNat_lt
  clear himm h hf
  unfold insV at *
  go_enter Tryz.func92, Tryz.ntmps92
  go_wp2_with (go_at_call 30; refine (get4 [x0, x1, x2, x3, x4, x5, x6, x7] _ rfl).mono ?_; rintro e w1 ⟨hb1, rfl⟩; rw [show List.drop 4 [x0, x1, x2, x3, x4, x5, x6, x7] = [x4, x5, x6, x7] from rfl, HI.out]; have HB1 := Lib.hid hb1; clear hb1)
  refine name_world fun W hW => ?_
  have HW := Lib.hid hW
  clear hW
  have q0 := q_0 x0 x1 x2 x3 x4 x5 x6 x7
  have q1 := q_1 x0 x1 x2 x3 x4 x5 x6 x7
  have q2 := q_2 x0 x1 x2 x3 x4 x5 x6 x7
  have q3 := q_3 x0 x1 x2 x3 x4 x5 x6 x7
  go_region
  go_wp2_with fail
  clear q0 q1 q2 q3
  have hWB : Below w.heap.size w W := by rw [← HW.out]; exact below_call ((Below.refl _ _).alloc (Nat.le_refl _) _) HB1.out
  have hW0 : W.heap[w.heap.size]? = some (.cells #[.int .i64 0, .int .i64 0, .int .i64 0, .int .i64 0, .int .i64 0] 67 (0, 0)) := by rw [← HW.out]; exact new_block HB1.out
  go_at_call 72
  have vB : Below W.heap.size W ((W.alloc (.cells #[.int .i64 x0.toNat, .int .i64 x1.toNat, .int .i64 x2.toNat, .int .i64 x3.toNat, .int .i64 imm] 67)).drew) := ((Below.refl _ _).alloc (Nat.le_refl _) _).drew
  have v8 : ((W.alloc (.cells #[.int .i64 x0.toNat, .int .i64 x1.toNat, .int .i64 x2.toNat, .int .i64 x3.toNat, .int .i64 imm] 67)).drew).heap[W.heap.size]? = some (.cells #[.int .i64 x0.toNat, .int .i64 x1.toNat, .int .i64 x2.toNat, .int .i64 x3.toNat, .int .i64 imm] 67 (0, 0)) := block_drew (heap_alloc_new _ _)
  have vF := (HF.out.below hWB).below vB
  refine (right_any (x0.toNat : Int) (x1.toNat : Int) (x2.toNat : Int) (x3.toNat : Int) imm true _ vF ⟨fun _ => HH.out, fun _ => rfl⟩).mono ?_
  rintro e w2 ⟨rfl, hb2⟩
  have k0 := (hb2.block _ (by simp; exact Nat.lt_of_lt_of_le (lt_of_block hW0) (by omega))).trans ((vB.block _ (lt_of_block hW0)).trans hW0)
  have k8 := (hb2.block _ (lt_of_block v8)).trans v8
  have kB := hWB.trans ((vB.trans (hb2.mono vB.size)).mono hWB.size)
  have h08 : w.heap.size ≠ W.heap.size := by have := lt_of_block hW0; omega
  (have c0 := cell_l k8 0 rfl; have f0 := free_in k8 0; have c1 := cell_l k8 1 rfl; have f1 := free_in k8 1; have c2 := cell_l k8 2 rfl; have f2 := free_in k8 2; have c3 := cell_l k8 3 rfl; have f3 := free_in k8 3; have c4 := cell_l k8 4 rfl; have f4 := free_in k8 4)
  have HK := Lib.hid (And.intro kB (And.intro k0 k8))
  clear hWB hW0 vB v8 vF hb2 kB
  have g0 := cell_l k0 0 rfl
  have p0 := free_in k0 0
  go_wp2_with ((with_reducible refine at_store_law ?_); refine wpList_store_row rfl _ _ _ rfl _ _ rfl rfl _ _ (by (repeat (first | assumption | exact heap_alloc_new _ _ | refine block_old ?_ | refine block_drew ?_ | apply setRow_heap | (refine (setRow_other _ _ _ _ ?_).trans ?_; omega)))) (by kernel_rfl) (by rfl) (by simp [Value.oneCell']) ?_; (try simp only [World.setRow_alloc_new]))
  obtain ⟨kB, k0, k8⟩ := HK.out
  have hcell : (w2.setRow w.heap.size #[.int .i64 x0.toNat, .int .i64 x1.toNat, .int .i64 x2.toNat, .int .i64 x3.toNat, .int .i64 imm]).heap[w.heap.size]? = some (.cells #[.int .i64 x0.toNat, .int .i64 x1.toNat, .int .i64 x2.toNat, .int .i64 x3.toNat, .int .i64 imm] 67 (0, 0)) := setRow_heap _ _ _ _ _ _ k0
  refine bodyPost_ret (results_cell_tmp (t2 := 5) rfl _ _ w.heap.size _ _ _ _ rfl hcell Tryz.underlying67 rfl (by kernel_rfl)) rfl ?_
  exact ⟨((Only.of_below_le kB (fun k _ h => h) : Only (fun b => w.heap.size ≤ b) w w2).setRow _ _ (.inl (Nat.le_refl _))).below (Nat.le_refl _) (fun k h => h), rfl⟩

set_option maxRecDepth 100000 in
set_option maxHeartbeats 1000000 in
theorem encode_right (op a b c imm : Int) (w : World) (hf : Forms w) (h : InsG (opF op.toNat) op a b c imm) :
    Calls Tryz.prog 28 #[insV op a b c imm] w fun e w' => Below w.heap.size w w' ∧ e = .returned (.tuple #[.string ⟨(encL op a b c imm).toArray⟩, .bool true]) := by
  have o0 := h.lo
  have o1 := h.hi
  have a0 := h.fa.2.1
  have a1 := h.fa.2.2
  have b0 := h.fb.2.1
  have b1 := h.fb.2.2
  have c0 := h.fc.2.1
  have c1 := h.fc.2.2
  have HH := Lib.hid h
  have HF := Lib.hid hf
  clear h hf
  unfold insV
  go_enter Tryz.func28, Tryz.ntmps28
  go_wp2_with (go_at_call 72; refine (right_any op a b c imm true _ (HF.out.below ((Below.refl _ _).alloc (Nat.le_refl _) _)) ⟨fun _ => HH.out, fun _ => rfl⟩).mono ?_; rintro e w1 ⟨rfl, hb1⟩; have k1 := new_block hb1; have e0 := cell_l k1 0 rfl; have e1 := cell_l k1 1 rfl; have e2 := cell_l k1 2 rfl; have e3 := cell_l k1 3 rfl; have e4 := cell_l k1 4 rfl; have H1 := Lib.hid (And.intro k1 (below_call ((Below.refl _ _).alloc (Nat.le_refl _) _) hb1)); clear k1 hb1)
  rw [show (8 : Nat) = ([UInt8.ofNat op.toNat, UInt8.ofNat a.toNat, UInt8.ofNat b.toNat, UInt8.ofNat c.toNat, 0, 0, 0, 0] : List UInt8).length from rfl, run_convert_bytes_back _ 76 9 5 ⟨w1.heap.size, 0, none⟩ _ [UInt8.ofNat op.toNat, UInt8.ofNat a.toNat, UInt8.ofNat b.toNat, UInt8.ofNat c.toNat, 0, 0, 0, 0] Tryz.underlying76 Tryz.underlying5 Tryz.underlying9 ?hc]
  case hc =>
    intro j hj
    have hb : [Value.int .u8 op, .int .u8 a, .int .u8 b, .int .u8 c, .int .u8 0, .int .u8 0, .int .u8 0, .int .u8 0] = byteCells [UInt8.ofNat op.toNat, UInt8.ofNat a.toNat, UInt8.ofNat b.toNat, UInt8.ofNat c.toNat, 0, 0, 0, 0] := by
      simp only [byteCells, List.map_cons, List.map_nil]
      rw [byte_nat op (by omega) (by omega), byte_nat a (by omega) (by omega), byte_nat b (by omega) (by omega), byte_nat c (by omega) (by omega)]
      rfl
    rw [addr0]
    refine bytes_cell (t := 5) (fr := (0, 0)) ?_ j hj
    rw [← hb]
    exact heap_alloc_new _ _
  have hs1 := (H1.out.2).size
  have him1 := HH.out.im.fit.1
  have him2 := HH.out.im.fit.2
  have e4' : ∀ o, (w1.alloc o).cell? ⟨w.heap.size, 4, none⟩ = some (.int .i64 imm) := fun o => by rw [World.cell?_alloc_past _ _ _ (lt_of_block H1.out.1)]; exact e4
  have E4 := Lib.hid e4'
  have e5 := E4.out (.cells #[.int .u8 op, .int .u8 a, .int .u8 b, .int .u8 c, .int .u8 0, .int .u8 0, .int .u8 0, .int .u8 0] 5)
  clear e4' e0 e1 e2 e3 e4
  go_wp2_with (go_at_call 73; refine (put4 [UInt8.ofNat op.toNat, UInt8.ofNat a.toNat, UInt8.ofNat b.toNat, UInt8.ofNat c.toNat, 0, 0, 0, 0] imm _ (by simp) (by simp) him1 him2).mono ?_; rintro e w2 ⟨hb2, rfl⟩; have H2 := Lib.hid hb2; clear hb2)
  go_ret2
  exact ⟨H1.out.2.trans ((((Below.refl _ _).alloc (Nat.le_refl _) _).trans (H2.out.mono (by simp))).mono hs1), rfl⟩

set_option maxRecDepth 100000 in
set_option maxHeartbeats 1000000 in
theorem encode_wrong (op a b c imm : Int) (w : World) (hf : Forms w) (h : ¬ InsG (opF op.toNat) op a b c imm) :
    Calls Tryz.prog 28 #[insV op a b c imm] w fun e w' => Below w.heap.size w w' ∧ e = .returned (.tuple #[.string ⟨#[]⟩, .bool false]) := by
  have HH := Lib.hid h
  have HF := Lib.hid hf
  clear h hf
  unfold insV
  go_enter Tryz.func28, Tryz.ntmps28
  go_wp2_with fail
  go_at_call 72
  refine (right_any op a b c imm false _ (HF.out.below ((Below.refl _ _).alloc (Nat.le_refl _) _)) ⟨fun h => (by cases h), fun h => absurd h HH.out⟩).mono ?_
  rintro e w1 ⟨rfl, hb1⟩
  have H1 := Lib.hid (below_call ((Below.refl _ _).alloc (Nat.le_refl _) _) hb1)
  clear hb1
  go_wp2
  go_ret2
  exact ⟨H1.out, rfl⟩
end Go.Proofs.YtkbilipgidcgeaaGreatDoor
