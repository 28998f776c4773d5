/- linchpinlaw39.small: the last two conversions; what the example's code does. The example's second converter: its steps. The example's process: what its calls do. -/
import Derived.Test.YtkbilipgidcgeaaGreatDoorW31
import Derived.Test.YtkbilipgidcgeaaGreatDoorW37
import Derived.Test.YtkbilipgidcgeaaGreatDoorW39
import Derived.Test.YtkbilipgidcgeaaGreatDoorW40
import Derived.Test.YtkbilipgidcgeaaGreatDoorW29
set_option linter.unusedVariables false
set_option linter.unusedSimpArgs false
namespace Go.Proofs.YtkbilipgidcgeaaGreatDoor
open Go.RowKit
attribute [local go_sem] ext_cell ext_frozen

set_option maxRecDepth 100000 in
set_option maxHeartbeats 1000000 in
theorem crun_m1 (B : ByteArray) (p s l gm cm : Nat) (w : World) (hP : ProcLite B w p s l gm cm) :
    Calls Tryz.prog 12 #[.pointer (some ⟨p, 0, none⟩), .int .i64 1, .agg #[.int .i64 0, .int .i64 0], .int .i64 832, .agg (convC ⟨#[]⟩ ⟨#[]⟩ ⟨#[]⟩ (.slice none 0 0) (-1)), .string ⟨#[]⟩] w fun e w' => e = .returned (.int .i64 1) ∧ Below w.heap.size w w' := by
  have HP := Lib.hid hP
  clear hP
  unfold convC
  go_enter Tryz.func12, Tryz.ntmps12
  go_wp2_with (go_at_call 32; refine (pmods B p s l gm cm _ (HP.out.below (by go_grown))).mono ?_; rintro e w1 ⟨hb1, gx, cx, rfl, hown1⟩; have H1 := Lib.hid (below_call (((Below.refl _ _).alloc (Nat.le_refl _) _).alloc (by simp) _) hb1); clear hb1 hown1)
  go_ret
  exact ⟨rfl, H1.out⟩

theorem labL_length (d : List UInt8) (h : d.length ≤ 256) : (labL d).length = 512 := by
  unfold labL
  simp only [List.length_append, code_length, List.length_replicate]
  omega
theorem labL_code (d : List UInt8) : (labL d).take 256 = codeL ++ List.replicate 144 0 := by
  unfold labL
  rw [List.append_assoc, List.take_append_of_le_length (by simp [code_length]), List.take_of_length_le (by simp [code_length])]
theorem labL_data (d : List UInt8) : (labL d).drop 256 = d ++ List.replicate (256 - d.length) 0 := by
  unfold labL
  have h : (codeL ++ List.replicate 144 0).length = 256 := by simp [code_length]
  rw [List.append_assoc, ← h, List.drop_left']
  rfl

theorem code_ins (k : Nat) (hk : k < insT.length) : (codeL.drop (8 * k)).take 8 = encI insT[k] := by
  have hk' : k < 14 := hk
  have hcase : k = 0 ∨ k = 1 ∨ k = 2 ∨ k = 3 ∨ k = 4 ∨ k = 5 ∨ k = 6 ∨ k = 7 ∨ k = 8 ∨ k = 9 ∨ k = 10 ∨ k = 11 ∨ k = 12 ∨ k = 13 := by omega
  rcases hcase with rfl | rfl | rfl | rfl | rfl | rfl | rfl | rfl | rfl | rfl | rfl | rfl | rfl | rfl <;> rfl

/-- What stands at an address of the code. -/
theorem read_code (d : List UInt8) (b k : Nat) (hk : k < insT.length) : readL (codeP (labL d) b) (512 + 8 * k) 8 = encI insT[k] := by
  have hk' : k < 14 := hk
  unfold readL codeP Part.put newPart
  dsimp only
  rw [labL_code]
  have e : (512 + 8 * (k : Int) - 512).toNat = 8 * k := by omega
  have z : (512 - 512 : Int).toNat = 0 := rfl
  rw [e, z]
  unfold putL
  rw [List.take_zero, List.nil_append]
  have hl : (codeL ++ List.replicate 144 0).length = 256 := by simp [code_length]
  have hd0 : (List.replicate (256 : Int).toNat (0 : UInt8)).drop (0 + 256) = [] := rfl
  rw [hl, hd0, List.append_nil, List.drop_append_of_le_length (by rw [code_length]; omega), show (8 : Int).toNat = 8 from rfl, List.take_append_of_le_length (by rw [List.length_drop, code_length]; omega)]
  exact code_ins k hk
end Go.Proofs.YtkbilipgidcgeaaGreatDoor

namespace Go.Proofs.YtkbilipgidcgeaaGreatDoor
open Go.RowKit
attribute [local go_sem] ext_cell ext_frozen

theorem dec_any (x : I5) (h : InsOk (opF x.op.toNat) x.op x.a x.b x.c x.imm) (w : World) (hf : Forms w) :
    Calls Tryz.prog 92 #[.string ⟨(encI x).toArray⟩, .int .i64 0] w fun e w' => Below w.heap.size w w' ∧ e = .returned (.tuple #[insV x.op x.a x.b x.c x.imm, .bool true]) := by
  have e : encI x = [UInt8.ofNat x.op.toNat, UInt8.ofNat x.a.toNat, UInt8.ofNat x.b.toNat, UInt8.ofNat x.c.toNat, UInt8.ofNat ((x.imm / 2 ^ (8 * 0)) % 256).toNat, UInt8.ofNat ((x.imm / 2 ^ (8 * 1)) % 256).toNat, UInt8.ofNat ((x.imm / 2 ^ (8 * 2)) % 256).toNat, UInt8.ofNat ((x.imm / 2 ^ (8 * 3)) % 256).toNat] := rfl
  rw [e]
  have hs : sgn32 (leN [UInt8.ofNat ((x.imm / 2 ^ (8 * 0)) % 256).toNat, UInt8.ofNat ((x.imm / 2 ^ (8 * 1)) % 256).toNat, UInt8.ofNat ((x.imm / 2 ^ (8 * 2)) % 256).toNat, UInt8.ofNat ((x.imm / 2 ^ (8 * 3)) % 256).toNat]) = x.imm := sgn32_low x.imm h.im.lo h.im.hi
  have e0 := byte_nat x.op (by have := h.lo; omega) (by have := h.hi; omega)
  have e1 := byte_nat x.a h.a0 (by have := h.a1; omega)
  have e2 := byte_nat x.b h.b0 (by have := h.b1; omega)
  have e3 := byte_nat x.c h.c0 (by have := h.c1; omega)
  have e0' : (UInt8.ofNat x.op.toNat).toNat = x.op.toNat := by omega
  have := decode8 (UInt8.ofNat x.op.toNat) (UInt8.ofNat x.a.toNat) (UInt8.ofNat x.b.toNat) (UInt8.ofNat x.c.toNat) _ _ _ _ x.imm w hf hs (by rw [e0', ← e0', e0, e1, e2, e3, e0']; exact h)
  rw [e0, e1, e2, e3] at this
  exact this

/-- The data part with some bytes. -/
def dataQ (b : Nat) (D : List UInt8) : Part := { newPart 768 256 1 0 0 b with data := D }
/-- The example's memory. -/
def labP (d : List UInt8) (b1 b2 b3 : Nat) (D : List UInt8) : List Part := [codeP (labL d) b1, dataQ b2 D, stackP b3]

theorem areas_lab (d D T : List UInt8) (b1 b2 b3 blk : Nat) : AreasOk (labP d b1 b2 b3 D ++ [stackQ 2560 blk T]) := by
  have h3 : AreasOk [newPart 512 256 0 0 0 b1, newPart 768 256 1 0 0 b2, newPart 1280 1024 2 0 0 b3] := (areas_two b1 b2).snoc (q := newPart 1280 1024 2 0 0 b3) (by simp only [newPart]; decide) (by
    intro p hp
    simp only [List.mem_cons, List.not_mem_nil, or_false] at hp
    rcases hp with rfl | rfl <;> (simp only [newPart]; decide)) (by simp)
  have h4 : AreasOk [newPart 512 256 0 0 0 b1, newPart 768 256 1 0 0 b2, newPart 1280 1024 2 0 0 b3, newPart 2560 1024 2 (-1) 0 blk] := h3.snoc (q := newPart 2560 1024 2 (-1) 0 blk) (by simp only [newPart]; decide) (by
    intro p hp
    simp only [List.mem_cons, List.not_mem_nil, or_false] at hp
    rcases hp with rfl | rfl | rfl <;> (simp only [newPart]; decide)) (by simp)
  refine areas_like h4 rfl (fun i hi hi' => ?_)
  have : i = 0 ∨ i = 1 ∨ i = 2 ∨ i = 3 := by simp at hi'; omega
  rcases this with rfl | rfl | rfl | rfl <;> exact ⟨rfl, rfl⟩
theorem areas_lab3 (d D : List UInt8) (b1 b2 b3 : Nat) : AreasOk (labP d b1 b2 b3 D) := by
  have h3 : AreasOk [newPart 512 256 0 0 0 b1, newPart 768 256 1 0 0 b2, newPart 1280 1024 2 0 0 b3] := (areas_two b1 b2).snoc (q := newPart 1280 1024 2 0 0 b3) (by simp only [newPart]; decide) (by
    intro p hp
    simp only [List.mem_cons, List.not_mem_nil, or_false] at hp
    rcases hp with rfl | rfl <;> (simp only [newPart]; decide)) (by simp)
  refine areas_like h3 rfl (fun i hi hi' => ?_)
  have : i = 0 ∨ i = 1 ∨ i = 2 := by simp at hi'; omega
  rcases this with rfl | rfl | rfl <;> exact ⟨rfl, rfl⟩

theorem fetch_lab (d D T : List UInt8) (b1 b2 b3 blk k : Nat) (hk : k < insT.length) : FetchAt (labP d b1 b2 b3 D ++ [stackQ 2560 blk T]) (512 + 8 * k) insT[k].op insT[k].a insT[k].b insT[k].c insT[k].imm where
  at_ := by
    have hk' : k < 14 := hk
    refine ⟨0, ⟨by simp [labP], ?_, ?_⟩, ?_, rfl, ?_⟩
    · show (512 : Int) ≤ _; omega
    · intro j hj h0
      have : j = 1 ∨ j = 2 ∨ j = 3 := by simp [labP] at hj; omega
      rcases this with rfl | rfl | rfl
      · show _ < (768 : Int); omega
      · show _ < (1280 : Int); omega
      · show _ < (2560 : Int); omega
    · show _ - (512 : Int) + 8 ≤ 256; omega
    · intro w hf
      have := dec_any (insT[k]'hk) (insT_ok _ (List.getElem_mem hk)) w hf
      rw [← read_code d b1 k hk] at this
      exact this
  word := by rw [Int.tmod_eq_emod_of_nonneg (by omega)]; omega

theorem last_data {d D T : List UInt8} {b1 b2 b3 blk : Nat} {a : Int} (h1 : 768 ≤ a) (h2 : a < 1280) : LastAt (labP d b1 b2 b3 D ++ [stackQ 2560 blk T]) a 1 where
  lt := by simp [labP]
  le := by show (768 : Int) ≤ a; omega
  next := by
    intro j hj h0
    have : j = 2 ∨ j = 3 := by simp [labP] at hj; omega
    rcases this with rfl | rfl
    · show a < (1280 : Int); omega
    · show a < (2560 : Int); omega

theorem idx17 (w : World) : (Instr.index 303 (.agg opsArr) (.int .i64 17)).run Tryz.prog w = .ok (.func (.func 246) #[] #[]) w := by kernel_rfl
theorem idx2 (w : World) : (Instr.index 303 (.agg opsArr) (.int .i64 2)).run Tryz.prog w = .ok (.func (.func 226) #[] #[]) w := by kernel_rfl
theorem idx30 (w : World) : (Instr.index 303 (.agg opsArr) (.int .i64 30)).run Tryz.prog w = .ok (.func (.func 264) #[] #[]) w := by kernel_rfl
theorem call17 (args : Array Value) (w : World) : (callFunc 246 args).run Tryz.prog w = .ok (.enter 246 args) w := by simp [go_sem]
theorem call2 (args : Array Value) (w : World) : (callFunc 226 args).run Tryz.prog w = .ok (.enter 226 args) w := by simp [go_sem]
theorem call30 (args : Array Value) (w : World) : (callFunc 264 args).run Tryz.prog w = .ok (.enter 264 args) w := by simp [go_sem]

/-- The registers at the beginning. -/
def regs0 (to_ : Int) : Nat → Int := fun i => if i = 0 then 768 else if i = 1 then to_ else if i = 15 then 2560 + 1024 - 8 else 0

/-- The second converter: it writes, comes to a safe point, and fails. -/
theorem steps64 (s b1 b2 b3 : Nat) (d D : List UInt8) (to_ : Int) (hD : D.length = 256) (ht : 768 ≤ to_) (ht2 : to_ + 8 ≤ 1024) (ht3 : to_.tmod 8 = 0) :
    Steps s 2560 3 (fun _ => regs0 to_) (fun i => 576 + 8 * i) (fun i => i) (fun i => if i = 2 then 4 else 0) (fun i => labP d b1 b2 b3 (if i = 0 then D else putL D (to_ - 768).toNat (wordL to_))) (fun _ => List.replicate 1024 0) where
  step := by
    intro i hi gp cap blk W hA hsp hf
    have hS : ∀ x, (∃ p ∈ labP d b1 b2 b3 (if i = 0 then D else putL D (to_ - 768).toNat (wordL to_)) ++ [stackQ 2560 blk (List.replicate 1024 0)], p.blk = x) → x < W.heap.size := by
      rintro x ⟨p, hp, rfl⟩
      exact hsp.lt _ (.inr (.inr ⟨p, hp, rfl⟩))
    have h3 : i = 0 ∨ i = 1 ∨ i = 2 := by omega
    rcases h3 with rfl | rfl | rfl
    · refine step_any s gp cap _ _ 246 17 1 1 0 0 (regs0 to_) 576 (regs0 to_) 584 0 0 _ W hA hsp hf (fetch_lab d _ _ b1 b2 b3 blk 8 (by decide)) (by omega) idx17 ?_ hS (by omega) call17
      intro V g hg hsv
      have hla : LastAt (labP d b1 b2 b3 D ++ [stackQ 2560 blk (List.replicate 1024 0)]) (regs0 to_ 1 + 0) 1 := last_data (by show 768 ≤ to_ + 0; omega) (by show to_ + 0 < 1280; omega)
      refine (opstore_any g s gp cap _ 17 0 0 1 1 (by omega) (by omega) (regs0 to_) 576 (regs0 to_) (576 + 8) 0 0 V hg hA hsv 1 hla (by show to_ + 0 - 768 + 8 ≤ 256; omega) (by show (to_ + 0).tmod 8 = 0; rw [Int.add_zero]; exact ht3) (by show (1 : Int) ≠ 0; decide)).mono ?_
      rintro e w' ⟨rfl, ho, hg', hs'⟩
      refine ⟨rfl, ho.mono ?_, hg', ?_⟩
      · rintro x _ (h | h)
        · exact .inl h
        · exact .inr ⟨_, List.getElem_mem hla.lt, h.symm⟩
      · have hs2 : SpaceAt w' s (.slice (some ⟨gp, 0, none⟩) (labP d b1 b2 b3 D ++ [stackQ 2560 blk (List.replicate 1024 0)]).length cap) (labP d b1 b2 b3 (putL D (to_ + 0 - 768).toNat (wordL to_)) ++ [stackQ 2560 blk (List.replicate 1024 0)]) := hs'
        rw [Int.add_zero] at hs2
        exact hs2
    · refine step_any s gp cap _ _ 226 2 0 0 0 0 (regs0 to_) 584 (regs0 to_) 592 1 0 _ W hA hsp hf (fetch_lab d _ _ b1 b2 b3 blk 9 (by decide)) (by omega) idx2 ?_ hS (by omega) call2
      intro V g hg hsv
      refine (opsafe_any g s 2 0 0 0 0 (regs0 to_) 584 (regs0 to_) (584 + 8) 0 0 V hg).mono ?_
      rintro e w' ⟨rfl, ho, hg'⟩
      refine ⟨rfl, ho.mono (fun _ _ h => .inl h), hg', hsv.kept ho (by rintro x hx rfl; exact hsv.not_cells hg (by decide) (by decide) (by decide) hx)⟩
    · refine step_any s gp cap _ _ 264 30 0 0 0 4 (regs0 to_) 592 (regs0 to_) 600 2 4 _ W hA hsp hf (fetch_lab d _ _ b1 b2 b3 blk 10 (by decide)) (by omega) idx30 ?_ hS (by omega) call30
      intro V g hg hsv
      refine (opsys_any g s 30 0 0 0 4 (regs0 to_) 592 (regs0 to_) (592 + 8) 0 0 V hg).mono ?_
      rintro e w' ⟨rfl, ho, hg'⟩
      refine ⟨rfl, ho.mono (fun _ _ h => .inl h), hg', hsv.kept ho (by rintro x hx rfl; exact hsv.not_cells hg (by decide) (by decide) (by decide) hx)⟩
  areas := fun i blk => areas_lab d _ _ b1 b2 b3 blk
  same := fun i => rfl
  len := fun i => rfl
  pos := by omega
  few := by omega
end Go.Proofs.YtkbilipgidcgeaaGreatDoor

namespace Go.Proofs.YtkbilipgidcgeaaGreatDoor
open Go.RowKit
attribute [local go_sem] ext_cell ext_frozen
attribute [local irreducible] labCells modC threadC


theorem ProcLite.kept {S : Nat → Prop} {B : ByteArray} {w w' : World} {p s l gm cm : Nat} (h : ProcLite B w p s l gm cm) (ho : Only S w w') (h1 : ¬ S p) (h2 : ¬ S l) (h3 : ¬ S gm) : ProcLite B w' p s l gm cm := by
  obtain ⟨⟨b, th, hp⟩, ⟨s', b', st, ord, hl⟩, hm⟩ := h
  exact ⟨⟨b, th, ho.kept hp h1⟩, ⟨s', b', st, ord, ho.kept hl h2⟩, ownsRow_kept hm ho h3⟩

theorem ProcLite.off {B : ByteArray} {w : World} {p s l gm cm : Nat} {pv : Value} {ps : List Part} (h : ProcLite B w p s l gm cm) (hsp : SpaceAt w s pv ps) : ¬ spaceFoot s pv ps p ∧ ¬ spaceFoot s pv ps l ∧ ¬ spaceFoot s pv ps gm := by
  obtain ⟨⟨b, th, hp⟩, ⟨s', b', st, ord, hl⟩, hm⟩ := h
  obtain ⟨cur, hc⟩ := ownsRow_block hm gm rfl
  exact ⟨hsp.not_cells hp (by decide) (by decide) (by decide), hsp.not_cells hl (by decide) (by decide) (by decide), hsp.not_cells hc (by decide) (by decide) (by decide)⟩

theorem foot_lab {s g cap b1 b2 b3 : Nat} {d D D' : List UInt8} {x : Nat} (h : spaceFoot s (.slice (some ⟨g, 0, none⟩) 3 cap) (labP d b1 b2 b3 D) x) : spaceFoot s (.slice (some ⟨g, 0, none⟩) 3 cap) (labP d b1 b2 b3 D') x := by
  rcases h with h | h | ⟨p, hp, h⟩
  · exact .inl h
  · exact .inr (.inl h)
  · simp only [labP, List.mem_cons, List.not_mem_nil, or_false] at hp
    rcases hp with rfl | rfl | rfl
    · exact .inr (.inr ⟨_, .head _, h⟩)
    · exact .inr (.inr ⟨_, .tail _ (.head _), h⟩)
    · exact .inr (.inr ⟨_, .tail _ (.tail _ (.head _)), h⟩)

theorem last_data3 {d D : List UInt8} {b1 b2 b3 : Nat} {a : Int} (h1 : 768 ≤ a) (h2 : a < 1280) : LastAt (labP d b1 b2 b3 D) a 1 where
  lt := by simp [labP]
  le := by show (768 : Int) ≤ a; omega
  next := by
    intro j hj h0
    have : j = 2 := by simp [labP] at hj; omega
    subst this
    show a < (1280 : Int); omega

/-- The example's process: everything that its calls need. -/
structure LabProc (h0 : Nat) (B : ByteArray) (d : List UInt8) (w : World) (n : PN) (g cap : Nat) (D : List UInt8) : Prop where
  lite : ProcLite B w n.p n.s n.l n.gm n.cm
  space : SpaceAt w n.s (.slice (some ⟨g, 0, none⟩) 3 cap) (labP d n.b1 n.b2 n.b3 D)
  fresh : ∀ x, spaceFoot n.s (.slice (some ⟨g, 0, none⟩) 3 cap) (labP d n.b1 n.b2 n.b3 D) x → h0 ≤ x

theorem LabProc.below {h0 : Nat} {B : ByteArray} {d : List UInt8} {w w' : World} {n : PN} {g cap : Nat} {D : List UInt8} (h : LabProc h0 B d w n g cap D) (hb : Below w.heap.size w w') : LabProc h0 B d w' n g cap D :=
  ⟨h.lite.below hb, h.space.below hb, h.fresh⟩

theorem LabProc.new {h0 : Nat} {B : ByteArray} {d : List UInt8} {w w' : World} {n : PN} {g cap g' cap' : Nat} {D D' : List UInt8} (h : LabProc h0 B d w n g cap D) (ho : Only (spaceFoot n.s (.slice (some ⟨g, 0, none⟩) 3 cap) (labP d n.b1 n.b2 n.b3 D)) w w')
    (hs : SpaceAt w' n.s (.slice (some ⟨g', 0, none⟩) 3 cap') (labP d n.b1 n.b2 n.b3 D')) (hg : g' = g ∨ w.heap.size ≤ g') (hw : h0 ≤ w.heap.size) : LabProc h0 B d w' n g' cap' D' := by
  obtain ⟨a, b, c⟩ := h.lite.off h.space
  refine ⟨h.lite.kept ho a b c, hs, fun x hx => ?_⟩
  rcases foot_lab (D' := D) hx with k | k | k
  · exact h.fresh x (.inl k)
  · rcases hg with rfl | hg
    · exact h.fresh x (.inr (.inl k))
    · have : g' = x := by simpa [Value.ownBlock] using k
      omega
  · exact h.fresh x (.inr (.inr k))

theorem putL_len (D : List UInt8) (o : Nat) (X : List UInt8) (h : o + X.length ≤ D.length) : (putL D o X).length = D.length := putL_length _ _ _ h

theorem lab_run_ok (h0 : Nat) (B : ByteArray) (d : List UInt8) (n : PN) (g cap : Nat) (D : List UInt8) (gp o cp : Nat) (pcs : List Pc) (oa n0 to_ : Int) (o1 s1 f1 : ByteArray) (bs : List UInt8) (bA : ByteArray) (hbA : bA = ⟨bs.toArray⟩) (w : World) (hL : LabProc h0 B d w n g cap D) (hw : h0 ≤ w.heap.size)
    (hpc : PcsAt w gp o pcs) (hg : gp < w.heap.size) (hlen : pcs.length ≤ 100) (h1 : 0 ≤ n0) (hok : pcs.all (withinB · n0 bs.length) = true) (h2 : 768 ≤ oa) (h3 : oa - 768 + n0 ≤ 256) (h4 : 768 ≤ to_) (h5 : to_ - 768 + bs.length ≤ 256) :
    Calls Tryz.prog 12 #[.pointer (some ⟨n.p, 0, none⟩), .int .i64 0, .agg #[.int .i64 oa, .int .i64 n0], .int .i64 to_, .agg (convC o1 s1 f1 (.slice (some ⟨gp, o, none⟩) pcs.length cp) (-1)), .string bA] w fun e w' => e = .returned (.int .i64 0) ∧
      Only (spaceFoot n.s (.slice (some ⟨g, 0, none⟩) 3 cap) (labP d n.b1 n.b2 n.b3 D)) w w' ∧ LabProc h0 B d w' n g cap (putL D (to_ - 768).toNat (applyL (readL (dataQ n.b2 D) oa n0) pcs bs)) := by
  refine (crun_ok B n.p n.s n.l n.gm n.cm gp o cp pcs oa n0 to_ o1 s1 f1 bs bA hbA _ _ 1 w hL.lite hpc hg hlen h1 (by omega) (by omega) hok (areas_lab3 d D n.b1 n.b2 n.b3) hL.space (last_data3 h2 (by omega)) (by show oa - 768 + n0 ≤ 256; exact h3) (last_data3 h4 (by omega)) (by show to_ - 768 + _ ≤ (256 : Int); exact h5)).mono ?_
  rintro e w' ⟨rfl, ho, hs⟩
  have ho' : Only (spaceFoot n.s (.slice (some ⟨g, 0, none⟩) 3 cap) (labP d n.b1 n.b2 n.b3 D)) w w' := ho.mono fun x _ hx => .inr (.inr ⟨dataQ n.b2 D, .tail _ (.head _), hx.symm⟩)
  exact ⟨rfl, ho', hL.new ho' hs (.inl rfl) hw⟩

theorem lab_run_nil (h0 : Nat) (B : ByteArray) (d : List UInt8) (n : PN) (g cap : Nat) (D : List UInt8) (oa n0 to_ : Int) (o1 s1 f1 : ByteArray) (bs : List UInt8) (bA : ByteArray) (hbA : bA = ⟨bs.toArray⟩) (w : World) (hL : LabProc h0 B d w n g cap D) (hw : h0 ≤ w.heap.size)
    (h1 : 0 ≤ n0) (h2 : 768 ≤ oa) (h3 : oa - 768 + n0 ≤ 256) (h4 : 768 ≤ to_) (h5 : to_ - 768 + bs.length ≤ 256) :
    Calls Tryz.prog 12 #[.pointer (some ⟨n.p, 0, none⟩), .int .i64 0, .agg #[.int .i64 oa, .int .i64 n0], .int .i64 to_, .agg (convC o1 s1 f1 (.slice none 0 0) (-1)), .string bA] w fun e w' => e = .returned (.int .i64 0) ∧
      Only (spaceFoot n.s (.slice (some ⟨g, 0, none⟩) 3 cap) (labP d n.b1 n.b2 n.b3 D)) w w' ∧ LabProc h0 B d w' n g cap (putL D (to_ - 768).toNat bs) := by
  refine (crun_nil B n.p n.s n.l n.gm n.cm oa n0 to_ o1 s1 f1 bs bA hbA _ _ 1 w hL.lite h1 (by omega) (by omega) (areas_lab3 d D n.b1 n.b2 n.b3) hL.space (last_data3 h2 (by omega)) (by show oa - 768 + n0 ≤ 256; exact h3) (last_data3 h4 (by omega)) (by show to_ - 768 + _ ≤ (256 : Int); exact h5)).mono ?_
  rintro e w' ⟨rfl, ho, hs⟩
  have ho' : Only (spaceFoot n.s (.slice (some ⟨g, 0, none⟩) 3 cap) (labP d n.b1 n.b2 n.b3 D)) w w' := ho.mono fun x _ hx => .inr (.inr ⟨dataQ n.b2 D, .tail _ (.head _), hx.symm⟩)
  exact ⟨rfl, ho', hL.new ho' hs (.inl rfl) hw⟩

theorem lab_read (h0 : Nat) (B : ByteArray) (d : List UInt8) (n : PN) (g cap : Nat) (D : List UInt8) (a m : Int) (w : World) (hL : LabProc h0 B d w n g cap D) (h2 : 768 ≤ a) (h3 : a - 768 + m ≤ 256) (hm : 0 ≤ m) :
    Calls Tryz.prog 11 #[.pointer (some ⟨n.s, 0, none⟩), .int .i64 a, .int .i64 m] w fun e w' => Below w.heap.size w w' ∧ e = .returned (.tuple #[.string ⟨(readL (dataQ n.b2 D) a m).toArray⟩, .int .i64 0]) :=
  read_at n.s _ _ a m w (areas_lab3 d D n.b1 n.b2 n.b3) hL.space 1 (last_data3 h2 (by omega)) (by show a - 768 + m ≤ 256; exact h3) hm

/-- The converter that writes and then fails: the memory is as before. -/
theorem lab_run_fail (h0 : Nat) (B : ByteArray) (d : List UInt8) (n : PN) (g cap : Nat) (D : List UInt8) (hD : D.length = 256) (gp o cp : Nat) (pcs : List Pc) (n0 to_ : Int) (o1 s1 f1 : ByteArray) (bs : List UInt8) (bA : ByteArray) (hbA : bA = ⟨bs.toArray⟩) (w : World) (hL : LabProc h0 B d w n g cap D) (hw : h0 ≤ w.heap.size) (hf : Forms w) (hpos : 0 < h0)
    (hpc : PcsAt w gp o pcs) (hg : gp < w.heap.size) (hlen : pcs.length ≤ 100) (h1 : 0 ≤ n0) (hok : pcs.all (withinB · n0 bs.length) = true) (h3 : n0 ≤ 256) (h4 : 768 ≤ to_) (h5 : to_ - 768 + bs.length ≤ 256) (h6 : to_ + 8 ≤ 1024) (h7 : to_.tmod 8 = 0)
    (hap : (applyL (readL (dataQ n.b2 D) 768 n0) pcs bs).length = bs.length) :
    Calls Tryz.prog 12 #[.pointer (some ⟨n.p, 0, none⟩), .int .i64 0, .agg #[.int .i64 768, .int .i64 n0], .int .i64 to_, .agg (convC o1 s1 f1 (.slice (some ⟨gp, o, none⟩) pcs.length cp) 64), .string bA] w fun e w' => e = .returned (.int .i64 16) ∧
      Only (spaceFoot n.s (.slice (some ⟨g, 0, none⟩) 3 cap) (labP d n.b1 n.b2 n.b3 D)) w w' ∧ ∃ g' cap', LabProc h0 B d w' n g' cap' D := by
  have hf0 : ∀ D', ¬ spaceFoot n.s (.slice (some ⟨g, 0, none⟩) 3 cap) (labP d n.b1 n.b2 n.b3 D') 0 := fun D' h => by
    have := hL.fresh 0 (foot_lab h); omega
  refine (crun_code B n.p n.s n.l n.gm n.cm gp o cp g cap pcs 768 n0 to_ 64 o1 s1 f1 bs bA hbA _ (labP d n.b1 n.b2 n.b3 (putL (putL D (to_ - 768).toNat (applyL (readL (dataQ n.b2 D) 768 n0) pcs bs)) (to_ - 768).toNat (wordL to_))) 1 false w hL.lite hpc hg hlen h1 (by omega) (by omega) hok (areas_lab3 d D n.b1 n.b2 n.b3) hL.space (last_data3 (by omega) (by omega)) (by show (768 : Int) - 768 + n0 ≤ 256; omega) (last_data3 h4 (by omega)) (by show to_ - 768 + _ ≤ (256 : Int); exact h5)
    (by decide) (by omega) (by omega) hf (hf0 _) ⟨rfl, fun i hi hi' => ?_⟩ ?_).mono ?_
  · have : i = 0 ∨ i = 1 ∨ i = 2 := by simp [labP] at hi; omega
    rcases this with rfl | rfl | rfl
    · exact ⟨_, rfl⟩
    · exact ⟨_, rfl⟩
    · exact ⟨_, rfl⟩
  · intro W bb thv hp hs hfW
    have hlD : (putL D (to_ - 768).toNat (applyL (readL (dataQ n.b2 D) 768 n0) pcs bs)).length = 256 := by rw [putL_len _ _ _ (by omega)]; exact hD
    have hs' : SpaceAt W n.s (.slice (some ⟨g, 0, none⟩) (labP d n.b1 n.b2 n.b3 (putL D (to_ - 768).toNat (applyL (readL (dataQ n.b2 D) 768 n0) pcs bs))).length cap) (labP d n.b1 n.b2 n.b3 (putL D (to_ - 768).toNat (applyL (readL (dataQ n.b2 D) 768 n0) pcs bs))) := hs
    have := cinner n.p n.s bb n.l g cap thv _ 2560 768 to_ 576 3 _ _ _ _ _ _ false W hp (areas_lab3 d _ n.b1 n.b2 n.b3) hs' hfW (steps64 n.s n.b1 n.b2 n.b3 d _ to_ hlD h4 h6 h7) rfl rfl (by simp [labP]) (by rfl) (by refine ⟨by omega, by omega, by rfl⟩) (by
      intro p hp
      simp only [labP, List.mem_cons, List.not_mem_nil, or_false] at hp
      rcases hp with rfl | rfl | rfl
      · show (512 : Int) + 256 ≤ 2560; omega
      · show (768 : Int) + 256 ≤ 2560; omega
      · show (1280 : Int) + 1024 ≤ 2560; omega) (by simp [labP]) (hf0 _) (by rfl) (by intro i hi; show (i : Int) = 0 ∨ (i : Int) = 1; omega) (.inr (.inl ⟨rfl, rfl⟩))
    refine this.mono ?_
    rintro e w' ⟨rfl, ho, g', cap', hs, hg'⟩
    exact ⟨rfl, ho.mono fun x _ hx => foot_lab hx, g', cap', hs, hg'⟩
  · rintro e w' ⟨rfl, ho, g', cap', hs, hg'⟩
    exact ⟨rfl, ho, g', cap', hL.new ho hs hg' hw⟩
end Go.Proofs.YtkbilipgidcgeaaGreatDoor
