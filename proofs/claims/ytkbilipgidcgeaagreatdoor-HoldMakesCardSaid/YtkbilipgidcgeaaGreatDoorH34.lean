/- hold.code: its closure. -/
import Derived.Test.YtkbilipgidcgeaaGreatDoorH22
import Derived.Test.YtkbilipgidcgeaaGreatDoorH23
import Derived.Test.YtkbilipgidcgeaaGreatDoorH33
set_option linter.unusedVariables false
set_option linter.unusedSimpArgs false
namespace Go.Proofs.YtkbilipgidcgeaaGreatDoor.Tiny
open Go.RowKit Go.ChangeMaps Go.Maps
attribute [local go_sem] ext_cell ext_frozen

structure InsR where
  op : Int
  a : Int
  b : Int
  c : Int
  imm : Int
/-- Eight bytes that are an instruction. -/
structure DecOk (e : List UInt8) (I : InsR) : Prop where
  bytes : ∃ x0 x1 x2 x3 x4 x5 x6 x7 : UInt8, e = [x0, x1, x2, x3, x4, x5, x6, x7] ∧ I.op = (x0.toNat : Int) ∧ I.a = (x1.toNat : Int) ∧ I.b = (x2.toNat : Int) ∧ I.c = (x3.toNat : Int) ∧ sgn32 (leN [x4, x5, x6, x7]) = I.imm
  right : InsG (opF I.op.toNat) I.op I.a I.b I.c I.imm

def JumpOp (op : Int) : Prop := op = 14 ∨ op = 19 ∨ op = 20 ∨ op = 21 ∨ op = 22 ∨ op = 24 ∨ op = 25

theorem keepsI_only {w w' : World} {b : Nat} (hb : MapB w b) (ho : Only (· = b) w w') : KeepsI w w' := ⟨ho.size, fun _ _ _ _ h _ => ho.kept h (cells_ne h hb)⟩

theorem cell_ne_map {w : World} {q b : Nat} {v : Value} (h : w.cell? ⟨q, 0, none⟩ = some v) (hm : MapB w b) : ¬ q = b := fun e => by
  subst e
  obtain ⟨es, c, hm⟩ := hm
  simp [World.cell?, hm] at h
theorem cell_ne_map0 {w : World} {q b o : Nat} {v : Value} (h : w.cell? ⟨q, o, none⟩ = some v) (hm : MapB w b) : ¬ q = b := fun e => by
  subst e
  obtain ⟨es, c, hm⟩ := hm
  simp [World.cell?, hm] at h
theorem info_int : (Tryz.prog.info? 3).map (fun i => (i.zero, i.size, i.bytes)) = some (some (.int .i64 0), 1, 8) := by kernel_rfl
theorem one_elem {x y : Value} {j : Nat} (h : [x][j]? = some y) : j = 0 ∧ y = x := by
  cases j with
  | zero => exact ⟨rfl, (Option.some.inj h).symm⟩
  | succ j => simp at h
theorem int_row {w : World} {base : Nat} {u : Value} {zs : List Int} (hoi : w.ownsInts base 3 .i64 u zs) {g : Nat} (h : u.ownBlock = some g) : ∃ cs fr, w.heap[g]? = some (Obj.cells cs 3 fr) := by
  rcases hoi.1.2 with ⟨e, _⟩ | ⟨g', cap, cur, e, _, hh, _⟩
  · rw [e] at h; cases h
  · rw [e] at h
    have e' : g' = g := Option.some.inj h
    subst e'
    exact ⟨_, _, hh⟩

set_option maxRecDepth 100000 in
set_option maxHeartbeats 4000000 in
theorem code1 (q0 q1 q2 q3 b nn bl bh base n : Nat) (a : Int) (e : List UInt8) (I : InsR) (S : Int → Prop) (L H : Int → List Int) (w : World) (hF : Forms w) (hD : DecOk e I) (hS : SetAt w b nn S) (hG : Grp w bl bh base n L H)
    (h0 : w.cell? ⟨q0, 0, none⟩ = some (.func (.func 45) #[] #[])) (h1 : w.cell? ⟨q1, 0, none⟩ = some (.map (some b))) (h2 : w.cell? ⟨q2, 0, none⟩ = some (.map (some bl))) (h3 : w.cell? ⟨q3, 0, none⟩ = some (.map (some bh)))
    (m2 : q2 < base) (m3 : q3 < base) (l0 : q0 < w.heap.size) (l1 : q1 < w.heap.size) (l2 : q2 < w.heap.size) (l3 : q3 < w.heap.size) (hb : b < base) (hbl : b ≠ bl) (hbh : b ≠ bh) (ha0 : 0 ≤ a) (ha1 : a ≤ 1000000) (hmax : nn < 900000) (hn : n < 900000) :
    Calls Tryz.prog 91 #[.int .i64 a, .string ⟨e.toArray⟩, .pointer (some ⟨q0, 0, none⟩), .pointer (some ⟨q1, 0, none⟩), .pointer (some ⟨q2, 0, none⟩), .pointer (some ⟨q3, 0, none⟩)] w fun e w' => e = .returned (.tuple #[]) ∧
      SetAt w' b (nn + 1) (fun z => (JumpOp I.op ∧ z = a + I.imm) ∨ (I.op = 3 ∧ z = I.imm) ∨ S z) ∧ Grp w' bl bh base (n + 1) (fun r => if I.op = 3 ∧ r = I.a then L r ++ [I.imm] else L r) (fun r => if I.op = 4 ∧ r = I.a then H r ++ [I.imm] else H r) ∧
      KeepsI w w' ∧ Only (fun x => x = b ∨ x = bl ∨ x = bh ∨ base ≤ x) w w' := by
  obtain ⟨⟨x0, x1, x2, x3, x4, x5, x6, x7, rfl, ho, hA, hB, hC, hI⟩, hR⟩ := hD
  have h0s : 0 < w.heap.size := hF.pos
  obtain ⟨op, hop⟩ : ∃ op, op = I.op := ⟨_, rfl⟩
  obtain ⟨ra, hra⟩ : ∃ ra, ra = I.a := ⟨_, rfl⟩
  obtain ⟨rb, hrb⟩ : ∃ rb, rb = I.b := ⟨_, rfl⟩
  obtain ⟨rc, hrc⟩ : ∃ rc, rc = I.c := ⟨_, rfl⟩
  obtain ⟨imm, himm⟩ : ∃ imm, imm = I.imm := ⟨_, rfl⟩
  rw [← hop, ← hra, ← hrb, ← hrc, ← himm] at hR
  rw [← hop] at ho
  rw [← hra] at hA
  rw [← hrb] at hB
  rw [← hrc] at hC
  rw [← himm] at hI
  rw [← hop, ← hra, ← himm]
  obtain ⟨i0, hi, hz0, hz1, hz2⟩ := info_parts info_int
  have hR' : InsG (opF x0.toNat) (x0.toNat : Int) (x1.toNat : Int) (x2.toNat : Int) (x3.toNat : Int) imm := by rw [ho, hA, hB, hC] at hR; exact hR
  have hfit := hR.im.fit
  unfold Fit32 at hfit
  have hra0 := hR.fa.2
  have hop1 := And.intro hR.lo hR.hi
  have hraw : (Lit.int .i64 ra).wf = true := wf_int (by omega)
  have himmw : (Lit.int .i64 imm).wf = true := wf_int (by omega)
  have hkey := keyOf_int_mk Tryz.underlying3 hraw
  have n2b := cell_ne_map h2 (SetAt.mapB hS)
  have HM := Lib.hid (SetAt.mapB hS)
  have HH := Lib.hid (And.intro hF (And.intro hS (And.intro hG (And.intro hR' hI))))
  have HE := Lib.hid (And.intro ho (And.intro hA (And.intro hB hC)))
  clear hF hS hG hR' hI hop hra hrb hrc himm hR ho hA hB hC
  go_enter Tryz.func91, Tryz.ntmps91
  go_wp2_with fail
  go_at_call 92
  refine (decode8G x0 x1 x2 x3 x4 x5 x6 x7 imm w HH.out.1 HH.out.2.2.2.2 HH.out.2.2.2.1).mono ?_
  rintro e w1 ⟨hb1, rfl⟩
  rw [← HE.out.1, ← HE.out.2.1, ← HE.out.2.2.1, ← HE.out.2.2.2]
  unfold insV
  have k0 := (hb1.cell (p := ⟨q0, 0, none⟩) l0).trans h0
  have k1 := (hb1.cell (p := ⟨q1, 0, none⟩) l1).trans h1
  have k2 := (hb1.cell (p := ⟨q2, 0, none⟩) l2).trans h2
  have k3 := (hb1.cell (p := ⟨q3, 0, none⟩) l3).trans h3
  have ls := hb1.size
  have H1 := Lib.hid hb1
  clear hb1 h0 h1 h2 h3
  go_upto_region 1 with ((with_reducible refine at_store_law ?_); refine wpList_store_row rfl _ _ _ rfl _ _ rfl rfl _ _ (by (repeat (first | assumption | exact heap_alloc_new _ _ | refine block_old ?_ | refine block_drew ?_ | apply setRow_heap | (refine (setRow_other _ _ _ _ ?_).trans ?_; omega)))) (by kernel_rfl) (by rfl) (by simp [Value.oneCell']) ?_; (try simp only [World.setRow_alloc_new]))
  refine name_world fun W hW => ?_
  have wB1 : Below w1.heap.size w1 W := by rw [← hW]; go_grown
  have wX : W.heap[w1.heap.size]? = some (.cells [.int .i64 op, .int .i64 ra, .int .i64 rb, .int .i64 rc, .int .i64 imm].toArray 67 (0, 0)) := by rw [← hW]; (repeat (first | assumption | exact heap_alloc_new _ _ | refine block_old ?_ | refine block_drew ?_ | apply setRow_heap | (refine (setRow_other _ _ _ _ ?_).trans ?_; omega)))
  have wB : Below w.heap.size w W := H1.out.trans (wB1.mono H1.out.size)
  have lx := lt_of_block wX
  have k0' := (wB1.cell (p := ⟨q0, 0, none⟩) (show q0 < w1.heap.size by omega)).trans k0
  have k1' := (wB1.cell (p := ⟨q1, 0, none⟩) (show q1 < w1.heap.size by omega)).trans k1
  have k2' := (wB1.cell (p := ⟨q2, 0, none⟩) (show q2 < w1.heap.size by omega)).trans k2
  have k3' := (wB1.cell (p := ⟨q3, 0, none⟩) (show q3 < w1.heap.size by omega)).trans k3
  have HW := Lib.hid (And.intro wB (And.intro wX (And.intro k2' k3')))
  clear hW wB1 wX wB k0 k1 k2 k3 k2' k3' H1
  go_wp2_with fail
  go_at_call 45
  refine (never_any a W).mono ?_
  rintro e w2 ⟨rfl, hw2⟩
  subst hw2
  clear k0'
  have y0 := cell_l HW.out.2.1 0 rfl
  have y4 := cell_l HW.out.2.1 4 rfl
  have hwr : IntKind.i64.wrap (a + imm) = a + imm := IntWalk.i64_in _ (by omega)
  by_cases hj : JumpOp op
  · have hj2 := hj
    unfold JumpOp at hj
    have HJ := Lib.hid (show ∀ z, ((JumpOp op ∧ z = a + imm) ∨ (op = 3 ∧ z = imm) ∨ S z) ↔ (z = a + imm ∨ S z) from fun z => by
      have n3 : ¬ op = 3 := by omega
      simp [hj2, n3])
    have HN := Lib.hid (show ¬ op = 3 ∧ ¬ op = 4 by omega)
    clear hj2
    rcases hj with rfl | rfl | rfl | rfl | rfl | rfl | rfl
    all_goals
      go_wp2_with fail
      go_at_call 93
      refine (set_add b nn w2.heap.size 0 1 S [a + imm] _ ((HH.out.2.1.below HW.out.1).below ((Below.refl _ _).alloc (Nat.le_refl _) _)) (fun j hj => by
        obtain rfl : j = 0 := by simpa using hj
        exact cell_l (heap_alloc_new w2 (.cells [.int .i64 (a + imm)].toArray 3)) 0 rfl) (fun z hz => by rw [List.mem_singleton] at hz; rw [hz]; exact wf_int (by omega)) (by have := HH.out.2.1.lt; have := HW.out.1.size; omega) (by simp) (by simp; omega)).mono ?_
      rintro e w4 ⟨rfl, hs4, ho4⟩
      have o4 : Only (· = b) w w4 := (Only.of_below HW.out.1).trans ((Only.of_below ((Below.refl _ _).alloc (Nat.le_refl _) _)).trans ho4)
      have o5 : Only (· = b) w2 w4 := (Only.of_below ((Below.refl _ _).alloc (Nat.le_refl _) _)).trans ho4
      have H4 := Lib.hid (And.intro hs4 (And.intro o4 o5))
      clear hs4 ho4 o4 o5
      go_wp2
      go_end0
      refine ⟨rfl, H4.out.1.same (fun z => ?_), ?_, keepsI_only (SetAt.mapB HH.out.2.1) H4.out.2.1, H4.out.2.1.mono (fun k _ h => .inl h)⟩
      · rw [HJ.out z]; simp
      · exact (((HH.out.2.2.1.kept (grown_only H4.out.2.1) (fun j e => by cases e; exact ⟨hb, hbl, hbh⟩))).up (Nat.le_succ n)).same (fun r => by simp) (fun r => by simp)
  · have n14 : (op == 14) = false := by simp; unfold JumpOp at hj; omega
    have n19 : (op == 19) = false := by simp; unfold JumpOp at hj; omega
    have n20 : (op == 20) = false := by simp; unfold JumpOp at hj; omega
    have n21 : (op == 21) = false := by simp; unfold JumpOp at hj; omega
    have n22 : (op == 22) = false := by simp; unfold JumpOp at hj; omega
    have n24 : (op == 24) = false := by simp; unfold JumpOp at hj; omega
    have n25 : (op == 25) = false := by simp; unfold JumpOp at hj; omega
    have HJ := Lib.hid hj
    clear hj
    by_cases h3 : op = 3
    · have HK := Lib.hid (show ∀ z, ((JumpOp op ∧ z = a + imm) ∨ (op = 3 ∧ z = imm) ∨ S z) ↔ (z = imm ∨ S z) from fun z => ⟨fun h => h.elim (fun h => absurd h.1 HJ.out) (fun h => h.elim (fun h => .inl h.2) .inr), fun h => .inr (h.elim (fun h => .inl ⟨h3, h⟩) .inr)⟩)
      subst h3
      clear n14 n19 n20 n21 n22 n24 n25
      go_wp2_with fail
      go_at_call 93
      refine (set_add b nn w2.heap.size 0 1 S [imm] _ ((HH.out.2.1.below HW.out.1).below ((Below.refl _ _).alloc (Nat.le_refl _) _)) (fun j hj => by
        obtain rfl : j = 0 := by simpa using hj
        exact cell_l (heap_alloc_new w2 (.cells [.int .i64 (imm)].toArray 3)) 0 rfl) (fun z hz => by rw [List.mem_singleton] at hz; rw [hz]; exact wf_int (by omega)) (by have := HH.out.2.1.lt; have := HW.out.1.size; omega) (by simp) (by simp; omega)).mono ?_
      rintro e w4 ⟨rfl, hs4, ho4⟩
      have o4 : Only (· = b) w w4 := (Only.of_below HW.out.1).trans ((Only.of_below ((Below.refl _ _).alloc (Nat.le_refl _) _)).trans ho4)
      have o5 : Only (· = b) w2 w4 := (Only.of_below ((Below.refl _ _).alloc (Nat.le_refl _) _)).trans ho4
      have H4 := Lib.hid (And.intro hs4 (And.intro o4 o5))
      clear hs4 ho4 o4 o5
      go_upto_region 13 with fail
      refine name_world fun wz hwz => ?_
      have oZ : Only (· = b) w wz := by rw [← hwz]; exact H4.out.2.1
      have hsZ : SetAt wz b (nn + 1) (fun z => z ∈ [imm] ∨ S z) := by rw [← hwz]; exact H4.out.1
      have yX : wz.heap[w1.heap.size]? = some (.cells [.int .i64 3, .int .i64 ra, .int .i64 rb, .int .i64 rc, .int .i64 imm].toArray 67 (0, 0)) := by rw [← hwz]; exact H4.out.2.2.kept HW.out.2.1 (fun h => absurd (SetAt.mapB (HH.out.2.1.below HW.out.1)) (fun hm => cells_ne HW.out.2.1 hm h))
      have cq : wz.cell? ⟨q2, 0, none⟩ = some (.map (some bl)) := by rw [← hwz]; exact (H4.out.2.2.cell (Nat.lt_of_lt_of_le l2 HW.out.1.size) n2b).trans HW.out.2.2.1
      have lz := oZ.size
      have lq : q2 < wz.heap.size := by omega
      have hgr0 : Grp wz bl bh base n L H := HH.out.2.2.1.kept (grown_only oZ) (fun j e => by cases e; exact ⟨hb, hbl, hbh⟩)
      have hbw := HH.out.2.1.lt
      clear hwz y0 y4
      have hgZ := hgr0
      obtain ⟨D, gZ, hLD⟩ := hgZ.lows
      have gB := hgZ.base
      have gb := gZ.base
      obtain ⟨u, hrun, zs, hat, hoi, hzl, hback, hno⟩ := look_run (No := Own wz bh) gZ (by omega) hraw (fun g x y => hgZ.apart g x y)
      have hlow : ∀ g, u.ownBlock = some g → base ≤ g ∧ g < wz.heap.size := fun g h => hoi.1.lt g h
      have nq : ¬ u.ownBlock = some q2 := fun h => by have := hlow _ h; omega
      have nb : ¬ u.ownBlock = some bl := fun h => by have := hlow _ h; omega
      have nX : ¬ u.ownBlock = some w1.heap.size := fun h => by obtain ⟨cs, fr, hx⟩ := int_row hoi h; rw [yX] at hx; exact absurd hx (by simp)
      clear hwr
      refine wp_region_factsW (fun g => u.ownBlock = some g) 10 [.val (.map (some bl)), .val (.pointer (some ⟨w1.heap.size, 1, none⟩)), .val (.int .i64 ra), .val (.map (some bl)), .val (.pointer (some ⟨w1.heap.size, 1, none⟩)), .val (.int .i64 ra), .val u, .val (.pointer (some ⟨w1.heap.size, 4, none⟩)), .val (.int .i64 imm), .more (fun v w => ∃ b, v = .slice (some ⟨b, 0, none⟩) 1 1 ∧ w.heap[b]? = some (.cells #[.int .i64 imm] 3 (0, 0)) ∧ wz.heap.size ≤ b) (fun v w w' hb h => by obtain ⟨b, h1, h2, h3⟩ := h; exact ⟨b, h1, (hb.block _ (lt_of_block h2)).trans h2, h3⟩), .more (fun v w => w.ownsInts base 3 .i64 v (zs ++ [imm]) ∧ (v.ownBlock = u.ownBlock ∨ ∃ g, v.ownBlock = some g ∧ wz.heap.size ≤ g)) (fun v w w' hb h => ⟨h.1.kept (grown_below hb) (by cases v.ownBlock <;> simp), h.2⟩)] (by kernel_rfl) (by kernel_rfl) ?hx ?hs ?he
      case hx =>
        intro j hj hjp vs wx wy hsz ho h
        have hj' : j = 9 ∨ j < 9 := by simp at hj; omega
        rcases hj' with rfl | hj'
        · cases vs with
          | nil => exact h
          | cons v vs =>
            obtain ⟨b9, e9, k9, l9⟩ := h
            exact ⟨b9, e9, ho.kept k9 (fun h => by have := (hlow _ h).2; omega), l9⟩
        · have hj2 : j = 0 ∨ j = 1 ∨ j = 2 ∨ j = 3 ∨ j = 4 ∨ j = 5 ∨ j = 6 ∨ j = 7 ∨ j = 8 := by omega
          rcases hj2 with rfl | rfl | rfl | rfl | rfl | rfl | rfl | rfl | rfl <;> (cases vs <;> exact h)
      case hs =>
        simp only [stepsAllW, List.take, List.length]
        refine ⟨?_, ?_, ?_, ?_, ?_, ?_, ?_, ?_, ?_, ?_, ?_, ?_⟩
        all_goals first | trivial | rw [if_neg (by decide)] | rw [if_pos (by decide)]
        all_goals (intro a wx hb hf hd)
        all_goals have hf4 : a.tmps[(4 : Nat)]?.getD undef = .pointer (some ⟨q2, 0, none⟩) := (hf 4 (by decide +kernel)).trans rfl
        all_goals have hf8 : a.tmps[(8 : Nat)]?.getD undef = .pointer (some ⟨w1.heap.size, 0, none⟩) := (hf 8 (by decide +kernel)).trans rfl
        · have hc := (hb.cell lq nq).trans cq
          exact grow_value (v := .map (some bl)) (by simp [execOp, hf4, hc, go_sem]) (Below.refl _ _) ⟨rfl, fun h => by cases h⟩
        · exact grow_value (v := .pointer (some ⟨w1.heap.size, 1, none⟩)) (by simp [execOp, hf8, go_sem]) (Below.refl _ _) ⟨rfl, fun h => by cases h⟩
        · have h47 : a.tmps[(47 : Nat)]?.getD undef = .pointer (some ⟨w1.heap.size, 1, none⟩) := hd 1 (by simp) (by kernel_rfl)
          have hc := cell_l (hb.kept yX nX) 1 rfl
          exact grow_value (v := .int .i64 ra) (by simp [execOp, h47, hc, go_sem]) (Below.refl _ _) ⟨rfl, fun h => by cases h⟩
        · have hc := (hb.cell lq nq).trans cq
          exact grow_value (v := .map (some bl)) (by simp [execOp, hf4, hc, go_sem]) (Below.refl _ _) ⟨rfl, fun h => by cases h⟩
        · exact grow_value (v := .pointer (some ⟨w1.heap.size, 1, none⟩)) (by simp [execOp, hf8, go_sem]) (Below.refl _ _) ⟨rfl, fun h => by cases h⟩
        · have h50 : a.tmps[(50 : Nat)]?.getD undef = .pointer (some ⟨w1.heap.size, 1, none⟩) := hd 4 (by simp) (by kernel_rfl)
          have hc := cell_l (hb.kept yX nX) 1 rfl
          exact grow_value (v := .int .i64 ra) (by simp [execOp, h50, hc, go_sem]) (Below.refl _ _) ⟨rfl, fun h => by cases h⟩
        · have h49 : a.tmps[(49 : Nat)]?.getD undef = .map (some bl) := hd 3 (by simp) (by kernel_rfl)
          have h51 : a.tmps[(51 : Nat)]?.getD undef = .int .i64 ra := hd 5 (by simp) (by kernel_rfl)
          have hr := look_same gZ hraw (hb.block _ gZ.lt nb) hrun
          exact grow_value (v := u) (by simp [execOp, Act.eval, h49, h51, hr, Result.andThen]) (Below.refl _ _) ⟨rfl, fun h => by cases h⟩
        · exact grow_value (v := .pointer (some ⟨w1.heap.size, 4, none⟩)) (by simp [execOp, hf8, go_sem]) (Below.refl _ _) ⟨rfl, fun h => by cases h⟩
        · have h53 : a.tmps[(53 : Nat)]?.getD undef = .pointer (some ⟨w1.heap.size, 4, none⟩) := hd 7 (by simp) (by kernel_rfl)
          have hc := cell_l (hb.kept yX nX) 4 rfl
          exact grow_value (v := .int .i64 imm) (by simp [execOp, h53, hc, go_sem]) (Below.refl _ _) ⟨rfl, fun h => by cases h⟩
        · have h54 : a.tmps[(54 : Nat)]?.getD undef = .int .i64 imm := hd 8 (by simp) (by kernel_rfl)
          exact grow_value (v := .slice (some ⟨wx.heap.size, 0, none⟩) 1 1) (w' := wx.alloc (.cells #[.int .i64 imm] 3)) (by simp [execOp, h54, go_sem]) ((Below.refl _ _).alloc (Nat.le_refl _) _) ⟨⟨_, rfl, heap_alloc_new _ _, hb.size⟩, fun h => by cases h⟩
        · have h52 : a.tmps[(52 : Nat)]?.getD undef = u := hd 6 (by simp) (by kernel_rfl)
          obtain ⟨b9, e9, k9, l9⟩ : ∃ b9, a.tmps[(55 : Nat)]?.getD undef = .slice (some ⟨b9, 0, none⟩) 1 1 ∧ wx.heap[b9]? = some (.cells #[.int .i64 imm] 3 (0, 0)) ∧ wz.heap.size ≤ b9 := hd 9 (by simp) (by kernel_rfl)
          have ho := hoi.kept (grown_below hb) (by cases u.ownBlock <;> simp)
          obtain ⟨v', w', hr, ho', hgr, -, hloc⟩ := run_append_own_at (P := Tryz.prog) wx base 31 31 3 i0 (.int .i64 0) 1 8 Tryz.underlying31 hi hz0 hz1 hz2 rfl (by decide) u _ _ ho.1 ⟨b9, 0, none⟩ 1 1 [.int .i64 imm] rfl (fun j y hj => by obtain ⟨rfl, rfl⟩ : j = 0 ∧ y = .int .i64 imm := one_elem hj; exact cell_l k9 0 rfl) (ints_oneCell .i64 [imm]) (by unfold maxLen; omega) (by omega) (Nat.le_trans gB hb.size)
          refine ⟨v', w', by simp only [execOp, resolve, invoke, builtin, Sem.run_bind, Sem.run_pure, Result.andThen_ok, List.map_toArray, List.map_cons, List.map_nil, Act.eval, Array.getD_eq_getD_getElem?, h52, e9, hr], ⟨hgr.os, hgr.tape, hgr.output, hgr.size, fun k hk hn => hgr.block k hk (fun e => hn e.symm)⟩, ⟨ho.appended ho' himmw, ?_⟩, fun h => by cases h⟩
          rcases hloc with h | h
          · exact .inl h
          · exact .inr ⟨_, h, hb.size⟩
      case he =>
        intro fv wy hb hs
        have g46 : fv 46 = .map (some bl) := hs 0 (by simp)
        have g48 : fv 48 = .int .i64 ra := hs 2 (by simp)
        obtain ⟨ho2, hloc⟩ : wy.ownsInts base 3 .i64 (fv 56) (zs ++ [imm]) ∧ ((fv 56).ownBlock = u.ownBlock ∨ ∃ g, (fv 56).ownBlock = some g ∧ wz.heap.size ≤ g) := hs 10 (by simp)
        obtain ⟨v', hv'⟩ : ∃ v', v' = fv 56 := ⟨_, rfl⟩
        rw [show (List.range (List.length _)).map (dstOf _) = [46, 47, 48, 49, 50, 51, 52, 53, 54, 55, 56] from by kernel_rfl]
        simp only [actOf, List.foldl, Act.put, List.drop, List.length, g46, g48, ← hv', List.setIfInBounds_toArray, List.set_cons_zero, List.set_cons_succ]
        rw [← hv'] at ho2 hloc
        have hgr1 : wz.grownBy wy u.ownBlock := ⟨hb.os, hb.tape, hb.output, hb.size, fun k hk hn => hb.block k hk (fun e => hn e.symm)⟩
        have hkZ := KeepsI.row hoi hgr1
        clear hs hv' g46 g48
        have hnv : ∀ g, v'.ownBlock = some g → ¬ Own wz bh g := fun g h hN => by
          rcases hloc with e | ⟨g', e, hge⟩
          · exact hno g (e ▸ h) hN
          · rw [h] at e; obtain rfl := Option.some.inj e; obtain ⟨D2, g2, _⟩ := hgZ.highs; have := (g2.row hN).2; omega
        refine wpList_mapUpdate_back_shuns wy rfl _ _ _ 185 rfl int_key Tryz.underlying185 hkey gZ (by unfold maxLen; omega) hoi (show wz.Shuns bl (Own wz bh) from fun es c hb x hx g hg => fun hN => hgZ.apart g ⟨es, c, hb, x, hx, hg⟩ hN) hnv hback rfl rfl rfl hgr1 ho2 (by simp; omega) hloc ?_
        intro w5 hown5 hgrow5 hsh5
        have hP := hgZ.put gZ hLD hat hoi hgr1 hno ho2 hown5 hgrow5 (fun g ⟨es, c, hb, x, hx, hg⟩ => hsh5 es c hb x hx g hg)
        have hK5 : KeepsI wz w5 := hkZ.trans (KeepsI.map (by obtain ⟨es, c, hb0, _⟩ := gZ; exact ⟨es, c, (hb.kept hb0 nb)⟩) hgrow5)
        have hO5 : Only (fun x => x = b ∨ x = bl ∨ x = bh ∨ base ≤ x) wz w5 := (hb.mono (fun k _ h => .inr (.inr (.inr (hlow k h).1)))).trans ⟨hgrow5.os, hgrow5.tape, hgrow5.output, hgrow5.size, fun k hk hn => hgrow5.block k hk (fun e => hn (.inr (.inl (Option.some.inj e))))⟩
        have hs5 : SetAt w5 b (nn + 1) _ := (hsZ.only hb (fun h => by have := hlow _ h; omega)).only (show Only (· = bl) wy w5 from ⟨hgrow5.os, hgrow5.tape, hgrow5.output, hgrow5.size, fun k hk hn => hgrow5.block k hk (fun e => hn (Option.some.inj e))⟩) hbl
        have H5 := Lib.hid (And.intro hP (And.intro hK5 (And.intro hO5 hs5)))
        clear hP hK5 hO5 hs5 hsh5 hgrow5 hown5 hnv hkZ hgr1 ho2 hloc hb
        go_wp2
        go_end0
        refine ⟨rfl, H5.out.2.2.2.same (fun z => ?_), H5.out.1.same (fun r => by simp) (fun r => by simp), (keepsI_only HM.out oZ).trans H5.out.2.1, (oZ.mono (fun k _ h => .inl h)).trans H5.out.2.2.1⟩
        have := HK.out z
        first | exact this.symm | (simp only [List.mem_singleton, true_and] at this ⊢; exact this.symm)
    · by_cases h4 : op = 4
      · have HK := Lib.hid (show ∀ z, ((JumpOp op ∧ z = a + imm) ∨ S z) ↔ S z from fun z => ⟨fun h => h.elim (fun h => absurd h.1 HJ.out) id, .inr⟩)
        clear h3
        subst h4
        clear n14 n19 n20 n21 n22 n24 n25 k1'
        go_upto_region 15 with fail
        have oZ : Only (· = b) w w2 := Only.of_below HW.out.1
        have hsZ : SetAt w2 b (nn + 1) S := (HH.out.2.1.below HW.out.1).up (Nat.le_succ _)
        have yX := HW.out.2.1
        have cq := HW.out.2.2.2
        have lz := oZ.size
        have lq : q3 < w2.heap.size := by omega
        have hgr0 : Grp w2 bl bh base n L H := HH.out.2.2.1.kept (grown_only oZ) (fun j e => by cases e; exact ⟨hb, hbl, hbh⟩)
        have hbw := HH.out.2.1.lt
        clear y0 y4
        have hgZ := hgr0.swap
        obtain ⟨D, gZ, hLD⟩ := hgZ.lows
        have gB := hgZ.base
        have gb := gZ.base
        obtain ⟨u, hrun, zs, hat, hoi, hzl, hback, hno⟩ := look_run (No := Own w2 bl) gZ (by omega) hraw (fun g x y => hgZ.apart g x y)
        have hlow : ∀ g, u.ownBlock = some g → base ≤ g ∧ g < w2.heap.size := fun g h => hoi.1.lt g h
        have nq : ¬ u.ownBlock = some q3 := fun h => by have := hlow _ h; omega
        have nb : ¬ u.ownBlock = some bh := fun h => by have := hlow _ h; omega
        have nX : ¬ u.ownBlock = some w1.heap.size := fun h => by obtain ⟨cs, fr, hx⟩ := int_row hoi h; rw [yX] at hx; exact absurd hx (by simp)
        clear hwr
        refine wp_region_factsW (fun g => u.ownBlock = some g) 10 [.val (.map (some bh)), .val (.pointer (some ⟨w1.heap.size, 1, none⟩)), .val (.int .i64 ra), .val (.map (some bh)), .val (.pointer (some ⟨w1.heap.size, 1, none⟩)), .val (.int .i64 ra), .val u, .val (.pointer (some ⟨w1.heap.size, 4, none⟩)), .val (.int .i64 imm), .more (fun v w => ∃ b, v = .slice (some ⟨b, 0, none⟩) 1 1 ∧ w.heap[b]? = some (.cells #[.int .i64 imm] 3 (0, 0)) ∧ w2.heap.size ≤ b) (fun v w w' hb h => by obtain ⟨b, h1, h2, h3⟩ := h; exact ⟨b, h1, (hb.block _ (lt_of_block h2)).trans h2, h3⟩), .more (fun v w => w.ownsInts base 3 .i64 v (zs ++ [imm]) ∧ (v.ownBlock = u.ownBlock ∨ ∃ g, v.ownBlock = some g ∧ w2.heap.size ≤ g)) (fun v w w' hb h => ⟨h.1.kept (grown_below hb) (by cases v.ownBlock <;> simp), h.2⟩)] (by kernel_rfl) (by kernel_rfl) ?hx ?hs ?he
        case hx =>
          intro j hj hjp vs wx wy hsz ho h
          have hj' : j = 9 ∨ j < 9 := by simp at hj; omega
          rcases hj' with rfl | hj'
          · cases vs with
            | nil => exact h
            | cons v vs =>
              obtain ⟨b9, e9, k9, l9⟩ := h
              exact ⟨b9, e9, ho.kept k9 (fun h => by have := (hlow _ h).2; omega), l9⟩
          · have hj2 : j = 0 ∨ j = 1 ∨ j = 2 ∨ j = 3 ∨ j = 4 ∨ j = 5 ∨ j = 6 ∨ j = 7 ∨ j = 8 := by omega
            rcases hj2 with rfl | rfl | rfl | rfl | rfl | rfl | rfl | rfl | rfl <;> (cases vs <;> exact h)
        case hs =>
          simp only [stepsAllW, List.take, List.length]
          refine ⟨?_, ?_, ?_, ?_, ?_, ?_, ?_, ?_, ?_, ?_, ?_, ?_⟩
          all_goals first | trivial | rw [if_neg (by decide)] | rw [if_pos (by decide)]
          all_goals (intro a wx hb hf hd)
          all_goals have hf5 : a.tmps[(5 : Nat)]?.getD undef = .pointer (some ⟨q3, 0, none⟩) := (hf 5 (by decide +kernel)).trans rfl
          all_goals have hf8 : a.tmps[(8 : Nat)]?.getD undef = .pointer (some ⟨w1.heap.size, 0, none⟩) := (hf 8 (by decide +kernel)).trans rfl
          · have hc := (hb.cell lq nq).trans cq
            exact grow_value (v := .map (some bh)) (by simp [execOp, hf5, hc, go_sem]) (Below.refl _ _) ⟨rfl, fun h => by cases h⟩
          · exact grow_value (v := .pointer (some ⟨w1.heap.size, 1, none⟩)) (by simp [execOp, hf8, go_sem]) (Below.refl _ _) ⟨rfl, fun h => by cases h⟩
          · have h60 : a.tmps[(60 : Nat)]?.getD undef = .pointer (some ⟨w1.heap.size, 1, none⟩) := hd 1 (by simp) (by kernel_rfl)
            have hc := cell_l (hb.kept yX nX) 1 rfl
            exact grow_value (v := .int .i64 ra) (by simp [execOp, h60, hc, go_sem]) (Below.refl _ _) ⟨rfl, fun h => by cases h⟩
          · have hc := (hb.cell lq nq).trans cq
            exact grow_value (v := .map (some bh)) (by simp [execOp, hf5, hc, go_sem]) (Below.refl _ _) ⟨rfl, fun h => by cases h⟩
          · exact grow_value (v := .pointer (some ⟨w1.heap.size, 1, none⟩)) (by simp [execOp, hf8, go_sem]) (Below.refl _ _) ⟨rfl, fun h => by cases h⟩
          · have h63 : a.tmps[(63 : Nat)]?.getD undef = .pointer (some ⟨w1.heap.size, 1, none⟩) := hd 4 (by simp) (by kernel_rfl)
            have hc := cell_l (hb.kept yX nX) 1 rfl
            exact grow_value (v := .int .i64 ra) (by simp [execOp, h63, hc, go_sem]) (Below.refl _ _) ⟨rfl, fun h => by cases h⟩
          · have h62 : a.tmps[(62 : Nat)]?.getD undef = .map (some bh) := hd 3 (by simp) (by kernel_rfl)
            have h64 : a.tmps[(64 : Nat)]?.getD undef = .int .i64 ra := hd 5 (by simp) (by kernel_rfl)
            have hr := look_same gZ hraw (hb.block _ gZ.lt nb) hrun
            exact grow_value (v := u) (by simp [execOp, Act.eval, h62, h64, hr, Result.andThen]) (Below.refl _ _) ⟨rfl, fun h => by cases h⟩
          · exact grow_value (v := .pointer (some ⟨w1.heap.size, 4, none⟩)) (by simp [execOp, hf8, go_sem]) (Below.refl _ _) ⟨rfl, fun h => by cases h⟩
          · have h66 : a.tmps[(66 : Nat)]?.getD undef = .pointer (some ⟨w1.heap.size, 4, none⟩) := hd 7 (by simp) (by kernel_rfl)
            have hc := cell_l (hb.kept yX nX) 4 rfl
            exact grow_value (v := .int .i64 imm) (by simp [execOp, h66, hc, go_sem]) (Below.refl _ _) ⟨rfl, fun h => by cases h⟩
          · have h67 : a.tmps[(67 : Nat)]?.getD undef = .int .i64 imm := hd 8 (by simp) (by kernel_rfl)
            exact grow_value (v := .slice (some ⟨wx.heap.size, 0, none⟩) 1 1) (w' := wx.alloc (.cells #[.int .i64 imm] 3)) (by simp [execOp, h67, go_sem]) ((Below.refl _ _).alloc (Nat.le_refl _) _) ⟨⟨_, rfl, heap_alloc_new _ _, hb.size⟩, fun h => by cases h⟩
          · have h65 : a.tmps[(65 : Nat)]?.getD undef = u := hd 6 (by simp) (by kernel_rfl)
            obtain ⟨b9, e9, k9, l9⟩ : ∃ b9, a.tmps[(68 : Nat)]?.getD undef = .slice (some ⟨b9, 0, none⟩) 1 1 ∧ wx.heap[b9]? = some (.cells #[.int .i64 imm] 3 (0, 0)) ∧ w2.heap.size ≤ b9 := hd 9 (by simp) (by kernel_rfl)
            have ho := hoi.kept (grown_below hb) (by cases u.ownBlock <;> simp)
            obtain ⟨v', w', hr, ho', hgr, -, hloc⟩ := run_append_own_at (P := Tryz.prog) wx base 31 31 3 i0 (.int .i64 0) 1 8 Tryz.underlying31 hi hz0 hz1 hz2 rfl (by decide) u _ _ ho.1 ⟨b9, 0, none⟩ 1 1 [.int .i64 imm] rfl (fun j y hj => by obtain ⟨rfl, rfl⟩ : j = 0 ∧ y = .int .i64 imm := one_elem hj; exact cell_l k9 0 rfl) (ints_oneCell .i64 [imm]) (by unfold maxLen; omega) (by omega) (Nat.le_trans gB hb.size)
            refine ⟨v', w', by simp only [execOp, resolve, invoke, builtin, Sem.run_bind, Sem.run_pure, Result.andThen_ok, List.map_toArray, List.map_cons, List.map_nil, Act.eval, Array.getD_eq_getD_getElem?, h65, e9, hr], ⟨hgr.os, hgr.tape, hgr.output, hgr.size, fun k hk hn => hgr.block k hk (fun e => hn e.symm)⟩, ⟨ho.appended ho' himmw, ?_⟩, fun h => by cases h⟩
            rcases hloc with h | h
            · exact .inl h
            · exact .inr ⟨_, h, hb.size⟩
        case he =>
          intro fv wy hb hs
          have g59 : fv 59 = .map (some bh) := hs 0 (by simp)
          have g61 : fv 61 = .int .i64 ra := hs 2 (by simp)
          obtain ⟨ho2, hloc⟩ : wy.ownsInts base 3 .i64 (fv 69) (zs ++ [imm]) ∧ ((fv 69).ownBlock = u.ownBlock ∨ ∃ g, (fv 69).ownBlock = some g ∧ w2.heap.size ≤ g) := hs 10 (by simp)
          obtain ⟨v', hv'⟩ : ∃ v', v' = fv 69 := ⟨_, rfl⟩
          rw [show (List.range (List.length _)).map (dstOf _) = [59, 60, 61, 62, 63, 64, 65, 66, 67, 68, 69] from by kernel_rfl]
          simp only [actOf, List.foldl, Act.put, List.drop, List.length, g59, g61, ← hv', List.setIfInBounds_toArray, List.set_cons_zero, List.set_cons_succ]
          rw [← hv'] at ho2 hloc
          have hgr1 : w2.grownBy wy u.ownBlock := ⟨hb.os, hb.tape, hb.output, hb.size, fun k hk hn => hb.block k hk (fun e => hn e.symm)⟩
          have hkZ := KeepsI.row hoi hgr1
          clear hs hv' g59 g61
          have hnv : ∀ g, v'.ownBlock = some g → ¬ Own w2 bl g := fun g h hN => by
            rcases hloc with e | ⟨g', e, hge⟩
            · exact hno g (e ▸ h) hN
            · rw [h] at e; obtain rfl := Option.some.inj e; obtain ⟨D2, g2, _⟩ := hgZ.highs; have := (g2.row hN).2; omega
          refine wpList_mapUpdate_back_shuns wy rfl _ _ _ 185 rfl int_key Tryz.underlying185 hkey gZ (by unfold maxLen; omega) hoi (show w2.Shuns bh (Own w2 bl) from fun es c hb x hx g hg => fun hN => hgZ.apart g ⟨es, c, hb, x, hx, hg⟩ hN) hnv hback rfl rfl rfl hgr1 ho2 (by simp; omega) hloc ?_
          intro w5 hown5 hgrow5 hsh5
          have hP := hgZ.put gZ hLD hat hoi hgr1 hno ho2 hown5 hgrow5 (fun g ⟨es, c, hb, x, hx, hg⟩ => hsh5 es c hb x hx g hg)
          have hK5 : KeepsI w2 w5 := hkZ.trans (KeepsI.map (by obtain ⟨es, c, hb0, _⟩ := gZ; exact ⟨es, c, (hb.kept hb0 nb)⟩) hgrow5)
          have hO5 : Only (fun x => x = b ∨ x = bl ∨ x = bh ∨ base ≤ x) w2 w5 := (hb.mono (fun k _ h => .inr (.inr (.inr (hlow k h).1)))).trans ⟨hgrow5.os, hgrow5.tape, hgrow5.output, hgrow5.size, fun k hk hn => hgrow5.block k hk (fun e => hn (.inr (.inr (.inl (Option.some.inj e)))))⟩
          have hs5 : SetAt w5 b (nn + 1) _ := (hsZ.only hb (fun h => by have := hlow _ h; omega)).only (show Only (· = bh) wy w5 from ⟨hgrow5.os, hgrow5.tape, hgrow5.output, hgrow5.size, fun k hk hn => hgrow5.block k hk (fun e => hn (Option.some.inj e))⟩) hbh
          have H5 := Lib.hid (And.intro hP (And.intro hK5 (And.intro hO5 hs5)))
          clear hP hK5 hO5 hs5 hsh5 hgrow5 hown5 hnv hkZ hgr1 ho2 hloc hb
          go_wp2
          go_end0
          refine ⟨rfl, H5.out.2.2.2.same (fun z => ?_), H5.out.1.swap.same (fun r => by simp) (fun r => by simp), (keepsI_only HM.out oZ).trans H5.out.2.1, (oZ.mono (fun k _ h => .inl h)).trans H5.out.2.2.1⟩
          have := HK.out z
          first | exact this.symm | (simp only [List.mem_singleton, true_and] at this ⊢; exact this.symm)
      · have n3 : (op == 3) = false := by simpa using h3
        have n4 : (op == 4) = false := by simpa using h4
        go_wp2
        go_end0
        refine ⟨rfl, ((HH.out.2.1.below HW.out.1).up (Nat.le_succ _)).same (fun z => ?_), ((HH.out.2.2.1.below HW.out.1).up (Nat.le_succ n)).same (fun r => ?_) (fun r => ?_), KeepsI.below HW.out.1, Only.of_below HW.out.1⟩
        · exact ⟨fun h => .inr (.inr h), fun h => h.elim (fun h => absurd h.1 HJ.out) (fun h => h.elim (fun h => absurd h.1 h3) id)⟩
        · rw [if_neg (fun h => h3 h.1)]
        · rw [if_neg (fun h => h4 h.1)]
end Go.Proofs.YtkbilipgidcgeaaGreatDoor.Tiny
