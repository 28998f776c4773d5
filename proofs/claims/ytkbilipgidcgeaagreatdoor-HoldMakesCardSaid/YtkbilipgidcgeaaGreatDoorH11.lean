/- isa.Right at right instructions. word.Put of four bytes. -/
import Derived.Lib.SlBytesConst
import Derived.Test.YtkbilipgidcgeaaGreatDoorH10
import Derived.Test.YtkbilipgidcgeaaGreatDoorShelf
import Derived.BigRegion
import Derived.Test.YtkbilipgidcgeaaGreatDoorH05
set_option linter.unusedVariables false
set_option linter.unusedSimpArgs false
namespace Go.Proofs.YtkbilipgidcgeaaGreatDoor
open Go.RowKit

attribute [local go_sem] ext_cell ext_frozen

/-- A right instruction whose form has the operands F. -/
structure InsOk (F : ByteArray) (op a b c imm : Int) : Prop where
  lo : 0 < op
  hi : op < 31
  im : ImmOk op imm
  ua : 0 ≤ Lib.indexByte F.data.toList 65 ∨ a = 0
  ub : 0 ≤ Lib.indexByte F.data.toList 66 ∨ b = 0
  uc : 0 ≤ Lib.indexByte F.data.toList 67 ∨ c = 0
  ui : 0 ≤ Lib.indexByte F.data.toList 73 ∨ imm = 0
  a0 : 0 ≤ a
  a1 : a ≤ 15
  b0 : 0 ≤ b
  b1 : b ≤ 15
  c0 : 0 ≤ c
  c1 : c ≤ 15

set_option maxRecDepth 100000 in
set_option maxHeartbeats 2000000 in
theorem right_ins (F : ByteArray) (op a b c imm : Int) (w : World) (h : InsOk F op a b c imm) (hF : w.cell? ⟨0, op.toNat * 4 + 1, none⟩ = some (.string F)) (h0 : 0 < w.heap.size) :
    Calls Tryz.prog 72 #[insV op a b c imm] w fun e w' => e = .returned (.bool true) ∧ Below w.heap.size w w' := by
  have hlo := h.lo
  have hhi := h.hi
  have HH := Lib.hid h
  clear h
  have hcv := fun (w : World) (C : Array Value) (n c : Nat) => Lib.run_convert_bytes_const (P := Tryz.prog) w 76 5 C n c Tryz.underlying76 Tryz.underlying5
  unfold insV
  go_enter Tryz.func72, Tryz.ntmps72
  go_wp2_with (go_at_call 165; refine (imm_ok _ _ _ _ _ _ HH.out.im).mono ?_; rintro e w1 ⟨rfl, hb1⟩; have hn1 := new_block hb1; have hsz1 := size_call hb1; have hb01 := below_call ((Below.refl _ _).alloc (Nat.le_refl _) _) hb1; have hF1 := (hb01.cell (p := ⟨0, op.toNat * 4 + 1, none⟩) h0).trans hF; have HB1 := Lib.hid (And.intro hb01 hn1); clear hb1 hb01 hn1)
  have hW2 := heap_alloc_new w1 (.cells #[.int .u8 65, .int .u8 66, .int .u8 67, .int .u8 73] 5 (4, 5))
  have hF2 : (w1.alloc (.cells #[.int .u8 65, .int .u8 66, .int .u8 67, .int .u8 73] 5 (4, 5))).cell? ⟨0, op.toNat * 4 + 1, none⟩ = some (.string F) := by
    rw [World.cell?_alloc_past _ _ _ (by omega)]; exact hF1
  have hW1 := block_old (o' := .cells #[.int .u8 65, .int .u8 66, .int .u8 67, .int .u8 73] 5 (4, 5)) HB1.out.2
  have HW := Lib.hid (And.intro hF2 (And.intro hW1 (And.intro hW2 (HB1.out.1.alloc (by omega) (.cells #[.int .u8 65, .int .u8 66, .int .u8 67, .int .u8 73] 5 (4, 5))))))
  clear hF1 hF2 hW1 hW2
  go_loopw [23] (fun i wr => ∃ k : Nat, k ≤ 4 ∧ i = .int .i64 k ∧ Below (w1.alloc (.cells #[.int .u8 65, .int .u8 66, .int .u8 67, .int .u8 73] 5 (4, 5))).heap.size (w1.alloc (.cells #[.int .u8 65, .int .u8 66, .int .u8 67, .int .u8 73] 5 (4, 5))) wr) (fun i _ => 4 - (intOf i).toNat)
  case atStart => exact ⟨0, by omega, rfl, Below.refl _ _⟩
  case round =>
    obtain ⟨k, hk, rfl, hb⟩ := hrel
    have g1 := (hb.block _ (lt_of_block HW.out.2.1)).trans HW.out.2.1
    have g2 := (hb.block _ (lt_of_block HW.out.2.2.1)).trans HW.out.2.2.1
    have gF : wr.cell? ⟨0, op.toNat * 4 + 1, none⟩ = some (.string F) := (hb.cell (p := ⟨0, op.toNat * 4 + 1, none⟩) (by simp)).trans HW.out.1
    (have c0 := cell_l g1 0 rfl; have f0 := free_in g1 0; have c1 := cell_l g1 1 rfl; have f1 := free_in g1 1; have c2 := cell_l g1 2 rfl; have f2 := free_in g1 2; have c3 := cell_l g1 3 rfl; have f3 := free_in g1 3; have c4 := cell_l g1 4 rfl; have f4 := free_in g1 4)
    have x0 := cell_l g2 0 rfl
    have x1 := cell_l g2 1 rfl
    have x2 := cell_l g2 2 rfl
    have x3 := cell_l g2 3 rfl
    have HR := Lib.hid (And.intro hb (And.intro g1 g2))
    clear hb g1 g2
    have ha0 := HH.out.a0
    have ha1 := HH.out.a1
    have hb0 := HH.out.b0
    have hb1 := HH.out.b1
    have hc0 := HH.out.c0
    have hc1 := HH.out.c1
    have hcases : k = 0 ∨ k = 1 ∨ k = 2 ∨ k = 3 ∨ k = 4 := by omega
    rcases hcases with rfl | rfl | rfl | rfl | rfl
    · by_cases hu : 0 ≤ Lib.indexByte F.data.toList 65
      · go_wp2_with (first
          | (go_at_call 166; refine (ifield_any w.heap.size 0 (by omega) _).mono ?_; rintro e w2 ⟨rfl, rfl⟩)
          | (go_at_call 167; refine (Tryz.strings_IndexByte _ _ _).mono ?_; rintro e w3 ⟨rfl, rfl⟩))
        all_goals first | (exfalso; omega) | (refine ⟨⟨1, by omega, rfl, HR.out.1⟩, ?_⟩; simp [intOf])
      · have hz : (a != 0) = false := by have := HH.out.ua.resolve_left hu; simpa using this
        have hu2 : decide (0 ≤ Lib.indexByte F.data.toList 65) = false := by simpa using hu
        go_wp2_with (first
          | (go_at_call 166; refine (ifield_any w.heap.size 0 (by omega) _).mono ?_; rintro e w2 ⟨rfl, rfl⟩)
          | (go_at_call 167; refine (Tryz.strings_IndexByte _ _ _).mono ?_; rintro e w3 ⟨rfl, rfl⟩))
        all_goals first | (exfalso; omega) | (refine ⟨⟨1, by omega, rfl, HR.out.1⟩, ?_⟩; simp [intOf])
    · by_cases hu : 0 ≤ Lib.indexByte F.data.toList 66
      · go_wp2_with (first
          | (go_at_call 166; refine (ifield_any w.heap.size 1 (by omega) _).mono ?_; rintro e w2 ⟨rfl, rfl⟩)
          | (go_at_call 167; refine (Tryz.strings_IndexByte _ _ _).mono ?_; rintro e w3 ⟨rfl, rfl⟩))
        all_goals first | (exfalso; omega) | (refine ⟨⟨2, by omega, rfl, HR.out.1⟩, ?_⟩; simp [intOf])
      · have hz : (b != 0) = false := by have := HH.out.ub.resolve_left hu; simpa using this
        have hu2 : decide (0 ≤ Lib.indexByte F.data.toList 66) = false := by simpa using hu
        go_wp2_with (first
          | (go_at_call 166; refine (ifield_any w.heap.size 1 (by omega) _).mono ?_; rintro e w2 ⟨rfl, rfl⟩)
          | (go_at_call 167; refine (Tryz.strings_IndexByte _ _ _).mono ?_; rintro e w3 ⟨rfl, rfl⟩))
        all_goals first | (exfalso; omega) | (refine ⟨⟨2, by omega, rfl, HR.out.1⟩, ?_⟩; simp [intOf])
    · by_cases hu : 0 ≤ Lib.indexByte F.data.toList 67
      · go_wp2_with (first
          | (go_at_call 166; refine (ifield_any w.heap.size 2 (by omega) _).mono ?_; rintro e w2 ⟨rfl, rfl⟩)
          | (go_at_call 167; refine (Tryz.strings_IndexByte _ _ _).mono ?_; rintro e w3 ⟨rfl, rfl⟩))
        all_goals first | (exfalso; omega) | (refine ⟨⟨3, by omega, rfl, HR.out.1⟩, ?_⟩; simp [intOf])
      · have hz : (c != 0) = false := by have := HH.out.uc.resolve_left hu; simpa using this
        have hu2 : decide (0 ≤ Lib.indexByte F.data.toList 67) = false := by simpa using hu
        go_wp2_with (first
          | (go_at_call 166; refine (ifield_any w.heap.size 2 (by omega) _).mono ?_; rintro e w2 ⟨rfl, rfl⟩)
          | (go_at_call 167; refine (Tryz.strings_IndexByte _ _ _).mono ?_; rintro e w3 ⟨rfl, rfl⟩))
        all_goals first | (exfalso; omega) | (refine ⟨⟨3, by omega, rfl, HR.out.1⟩, ?_⟩; simp [intOf])
    · by_cases hu : 0 ≤ Lib.indexByte F.data.toList 73
      · go_wp2_with (first
          | (go_at_call 166; refine (ifield_any w.heap.size 3 (by omega) _).mono ?_; rintro e w2 ⟨rfl, rfl⟩)
          | (go_at_call 167; refine (Tryz.strings_IndexByte _ _ _).mono ?_; rintro e w3 ⟨rfl, rfl⟩))
        all_goals first | (exfalso; omega) | (refine ⟨⟨4, by omega, rfl, HR.out.1⟩, ?_⟩; simp [intOf])
      · have hz : (imm != 0) = false := by have := HH.out.ui.resolve_left hu; simpa using this
        have hu2 : decide (0 ≤ Lib.indexByte F.data.toList 73) = false := by simpa using hu
        go_wp2_with (first
          | (go_at_call 166; refine (ifield_any w.heap.size 3 (by omega) _).mono ?_; rintro e w2 ⟨rfl, rfl⟩)
          | (go_at_call 167; refine (Tryz.strings_IndexByte _ _ _).mono ?_; rintro e w3 ⟨rfl, rfl⟩))
        all_goals first | (exfalso; omega) | (refine ⟨⟨4, by omega, rfl, HR.out.1⟩, ?_⟩; simp [intOf])
    · go_wp2
      go_ret
      exact ⟨rfl, HW.out.2.2.2.trans (HR.out.1.mono (by simp; omega))⟩
end Go.Proofs.YtkbilipgidcgeaaGreatDoor

namespace Go.Proofs.YtkbilipgidcgeaaGreatDoor
open Go.RowKit

attribute [local go_sem] ext_cell ext_frozen

theorem block_setF {w : World} {b : Nat} {l : List Value} {t : TypeId} {fr : Nat × Nat} (h : w.heap[b]? = some (.cells l.toArray t fr)) (i : Nat) (v : Value) :
    (w.setCell ⟨b, i, none⟩ v).heap[b]? = some (.cells (l.set i v).toArray t fr) := block_set h i v

theorem free_marked {w : World} {b : Nat} {arr : Array Value} {t : TypeId} {n m : Nat} (h : w.heap[b]? = some (.cells arr t (n, m))) (i : Nat) (hi : i < n) : w.frozen? ⟨b, i, none⟩ = false := by
  simp [World.frozen?, h]; omega

theorem byte_wrap (n : Int) (i : Nat) (hi : i < 8) : IntKind.u64.wrap n / 2 ^ (8 * i) % 256 = n / 2 ^ (8 * i) % 256 := by
  have hw : IntKind.u64.wrap n = n % 18446744073709551616 := by rw [IntKind.wrap_u64]
  rw [hw]
  have hc : i = 0 ∨ i = 1 ∨ i = 2 ∨ i = 3 ∨ i = 4 ∨ i = 5 ∨ i = 6 ∨ i = 7 := by omega
  rcases hc with rfl | rfl | rfl | rfl | rfl | rfl | rfl | rfl <;> simp <;> omega

set_option maxRecDepth 100000 in
theorem put1 (bn bs ba blk N : Nat) (n at_ : Int) (i len cap : Nat) (l : List Value) (w : World) (hn : w.cell? ⟨bn, 0, none⟩ = some (.int .i64 n)) (hs : w.cell? ⟨bs, 0, none⟩ = some (.slice (some ⟨blk, 0, none⟩) len cap)) (ha : w.cell? ⟨ba, 0, none⟩ = some (.int .i64 at_))
    (hb : w.heap[blk]? = some (.cells l.toArray 5 (N, N + 1))) (h0 : 0 ≤ at_) (h1 : at_ + i < len) (h2 : len ≤ l.length) (h3 : len ≤ N) (hi : i < 8) (hl : len ≤ 1000000) :
    Calls Tryz.prog 169 #[.int .i64 i, .pointer (some ⟨bn, 0, none⟩), .pointer (some ⟨bs, 0, none⟩), .pointer (some ⟨ba, 0, none⟩)] w fun e w' =>
      e = .returned (.tuple #[]) ∧ Only (· = blk) w w' ∧ w'.heap[blk]? = some (.cells (l.set (at_.toNat + i) (.int .u8 (n / 2 ^ (8 * i) % 256))).toArray 5 (N, N + 1)) := by
  have hof : (at_ + (i : Int)).toNat = at_.toNat + i := by omega
  obtain ⟨vv, hv⟩ : ∃ v, l[at_.toNat + i]? = some v := ⟨_, List.getElem?_eq_getElem (by omega)⟩
  have g0 := cell_l hb _ hv
  have gf := free_marked hb (at_.toNat + i) (by omega)
  rw [← hof] at g0 gf
  have HH := Lib.hid (And.intro hb hof)
  clear hb hof hv
  go_enter Tryz.func169, Tryz.ntmps169
  go_wp2
  go_region
  go_wp2
  go_end0
  obtain ⟨hb, hof⟩ := HH.out
  refine ⟨rfl, ((Only.refl (fun x => x = blk) w).setCell _ _ (.inl rfl)).drew, ?_⟩
  rw [hof, byte_wrap n i hi]
  exact block_drew (block_set hb _ _)
end Go.Proofs.YtkbilipgidcgeaaGreatDoor
