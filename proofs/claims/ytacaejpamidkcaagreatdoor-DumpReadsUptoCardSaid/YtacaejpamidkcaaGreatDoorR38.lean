/- The example 'two': its instructions and their bytes. machine.Step at a nop of the example. wire: the reader's values. dump: the reader's structs. dump: the reader's processors. dump: what the reader's lists share. -/
import Derived.Test.YtacaejpamidkcaaGreatDoorR37
set_option linter.unusedVariables false
set_option linter.unusedSimpArgs false
set_option maxRecDepth 100000
set_option maxHeartbeats 2000000
namespace Go.Proofs.YtacaejpamidkcaaGreatDoor
namespace Two
open Go.RowKit
attribute [local go_sem] ak_ af_
structure InsR where
 op : Int
 a : Int
 b : Int
 c : Int
 imm : Int
def InsR.Right (x : InsR) : Prop := InsG (opF x.op.toNat) x.op x.a x.b x.c x.imm
def ly_ (l : List InsR) : List Value := l.flatMap fun x => [.int .i64 x.op, .int .i64 x.a, .int .i64 x.b, .int .i64 x.c, .int .i64 x.imm]
def encI (x : InsR) : List UInt8 := encL x.op x.a x.b x.c x.imm
theorem m7_ : ∀ (l : List InsR) (k : Nat) (hk : k < l.length) (j : Nat), j < 5 → (ly_ l)[k * 5 + j]? = [Value.int .i64 l[k].op, .int .i64 l[k].a, .int .i64 l[k].b, .int .i64 l[k].c, .int .i64 l[k].imm][j]? := by
 intro l
 induction l with
 | nil => intro k hk; simp at hk
 | cons x l ih =>
  intro k hk j hj
  unfold ly_ at *
  cases k with
  | zero => simp only [List.flatMap_cons, Nat.zero_mul, Nat.zero_add, List.getElem_cons_zero]; rw [List.getElem?_append_left (by simp; omega)]
  | succ k =>
   simp only [List.flatMap_cons, List.getElem_cons_succ]
   rw [List.getElem?_append_right (by simp; omega), ← ih k (by simpa using hk) j hj]
   congr 1
   simp; omega
theorem gh_ (x : InsR) : (encI x).length = 8 := by
 unfold encI encL
 rw [gb_ _ _ _ (by simp [b1_])]
 rfl
theorem qo_ (l : List InsR) : (l.flatMap encI).length = 8 * l.length := by
 induction l with
 | nil => rfl
 | cons x l ih => rw [List.flatMap_cons, List.length_append, ih, gh_, List.length_cons]; omega
theorem w9_ (J : List InsR) (R : List UInt8) : ∀ (k : Nat) (hk : k < J.length), ((J.flatMap encI ++ R).drop (8 * k)).take 8 = encI J[k] := by
 induction J with
 | nil => intro k hk; simp at hk
 | cons x J ih =>
  intro k hk
  rw [List.flatMap_cons, List.append_assoc]
  cases k with
  | zero => rw [Nat.mul_zero, List.drop_zero, List.take_left' (gh_ x)]; rfl
  | succ k =>
   rw [show 8 * (k + 1) = (encI x).length + 8 * k by rw [gh_]; omega, List.drop_length_add_append]
   exact ih k (by simpa using hk)
theorem dec_any (x : InsR) (h : x.Right) (w : World) (hf : Forms w) :
 Calls Tryz.prog 247 #[.string ⟨(encI x).toArray⟩, .int .i64 0] w fun e w' => Below w.heap.size w w' ∧ e = .returned (.tuple #[insV x.op x.a x.b x.c x.imm, .bool true]) := by
 have e : encI x = [UInt8.ofNat x.op.toNat, UInt8.ofNat x.a.toNat, UInt8.ofNat x.b.toNat, UInt8.ofNat x.c.toNat, UInt8.ofNat ((x.imm / 2 ^ (8 * 0)) % 256).toNat, UInt8.ofNat ((x.imm / 2 ^ (8 * 1)) % 256).toNat, UInt8.ofNat ((x.imm / 2 ^ (8 * 2)) % 256).toNat, UInt8.ofNat ((x.imm / 2 ^ (8 * 3)) % 256).toNat] := rfl
 rw [e]
 have hfit := h.im.fit
 have hs : or_ (leN [UInt8.ofNat ((x.imm / 2 ^ (8 * 0)) % 256).toNat, UInt8.ofNat ((x.imm / 2 ^ (8 * 1)) % 256).toNat, UInt8.ofNat ((x.imm / 2 ^ (8 * 2)) % 256).toNat, UInt8.ofNat ((x.imm / 2 ^ (8 * 3)) % 256).toNat]) = x.imm := s9_ x.imm hfit.1 hfit.2
 have e0 := ft_ x.op (by have := h.lo; omega) (by have := h.hi; omega)
 have e1 := ft_ x.a h.fa.2.1 (by have := h.fa.2.2; omega)
 have e2 := ft_ x.b h.fb.2.1 (by have := h.fb.2.2; omega)
 have e3 := ft_ x.c h.fc.2.1 (by have := h.fc.2.2; omega)
 have e0' : (UInt8.ofNat x.op.toNat).toNat = x.op.toNat := by omega
 have := w8_ (UInt8.ofNat x.op.toNat) (UInt8.ofNat x.a.toNat) (UInt8.ofNat x.b.toNat) (UInt8.ofNat x.c.toNat) _ _ _ _ x.imm w hf hs (by rw [e0', ← e0', e0, e1, e2, e3, e0']; exact h)
 rw [e0, e1, e2, e3] at this
 exact this
def twoI : List InsR := [⟨1, 0, 0, 0, 0⟩, ⟨1, 0, 0, 0, 0⟩, ⟨22, 0, 0, 0, 48⟩, ⟨26, 0, 0, 0, 0⟩, ⟨1, 0, 0, 0, 0⟩, ⟨1, 0, 0, 0, 0⟩, ⟨1, 0, 0, 0, 0⟩, ⟨1, 0, 0, 0, 0⟩, ⟨2, 0, 0, 0, 0⟩, ⟨26, 0, 0, 0, 0⟩]
def twoL : List UInt8 := twoI.flatMap encI ++ List.replicate 176 0
theorem eh_ : twoL.length = 256 := by unfold twoL; rw [List.length_append, qo_, List.length_replicate]; rfl
theorem k4_ : ∀ x ∈ twoI, x.Right := by
 intro x hx
 simp only [twoI, List.mem_cons, List.not_mem_nil, or_false] at hx
 rcases hx with rfl | rfl | rfl | rfl | rfl | rfl | rfl | rfl | rfl | rfl
 all_goals
  unfold InsR.Right
  refine ⟨by decide, by decide, ?_, ⟨.inr rfl, by decide, by decide⟩, ⟨.inr rfl, by decide, by decide⟩, ⟨.inr rfl, by decide, by decide⟩, ?_⟩
  · unfold ImmG lx_; decide
  · first | exact .inr rfl | exact .inl (by decide)
def im_ (b : Nat) (D : List UInt8) : Part := { bt_ 1024 1024 2 0 0 b with data := D }
def twoP (b1 b2 : Nat) (D : List UInt8) : List Part := [fm_ twoL b1, im_ b2 D]
theorem k5_ (b : Nat) : (fm_ twoL b).data = twoL := by
 show putL (List.replicate (256 : Int).toNat 0) (512 - 512 : Int).toNat (twoL.take 256) = twoL
 rw [List.take_of_length_le (by rw [eh_]; omega)]
 unfold putL
 rw [show (512 - 512 : Int).toNat = 0 from rfl, List.take_zero, List.nil_append, List.drop_eq_nil_of_le (by rw [List.length_replicate, eh_]; decide), List.append_nil]
theorem sf_ {ns ps : List Part} (h : AreasOk ps) (hl : ns.length = ps.length) (he : ∀ i (hi : i < ns.length) (hi' : i < ps.length), ns[i].at_ = ps[i].at_ ∧ ns[i].size = ps[i].size) : AreasOk ns where
 each := fun q hq => by
  obtain ⟨i, hi, rfl⟩ := List.getElem_of_mem hq
  obtain ⟨e1, e2⟩ := he i hi (by omega)
  rw [e1, e2]
  exact h.each _ (List.getElem_mem _)
 apart := fun i j hi hj hij => by
  obtain ⟨e1, e2⟩ := he i hi (by omega)
  obtain ⟨e3, e4⟩ := he j hj (by omega)
  rw [e1, e2, e3]
  exact h.apart i j (by omega) (by omega) hij
 few := by rw [hl]; exact h.few
theorem f7_ (b1 b2 : Nat) (D : List UInt8) : AreasOk (twoP b1 b2 D) := by
 have h2 : AreasOk [bt_ 512 256 0 0 0 b1, bt_ 1024 1024 2 0 0 b2] := (jj_ b1).snoc (q := bt_ 1024 1024 2 0 0 b2) (by simp only [bt_]; decide) (by
  intro p hp
  simp only [List.mem_cons, List.not_mem_nil, or_false] at hp
  subst hp
  simp only [bt_]; decide) (by simp)
 refine sf_ h2 rfl (fun i hi hi' => ?_)
 have : i = 0 ∨ i = 1 := by simp at hi'; omega
 rcases this with rfl | rfl <;> exact ⟨rfl, rfl⟩
theorem m8_ {b1 b2 : Nat} {D : List UInt8} {a : Int} (h1 : 512 ≤ a) (h2 : a < 1024) : LastAt (twoP b1 b2 D) a 0 where
 lt := by simp [twoP]
 le := by show (512 : Int) ≤ a; omega
 next := by
  intro j hj h0
  have : j = 1 := by simp [twoP] at hj; omega
  subst this
  show a < (1024 : Int); omega
theorem ic_ {b1 b2 : Nat} {D : List UInt8} {a : Int} (h1 : 1024 ≤ a) : LastAt (twoP b1 b2 D) a 1 where
 lt := by simp [twoP]
 le := by show (1024 : Int) ≤ a; omega
 next := by
  intro j hj h0
  simp [twoP] at hj
  omega
theorem m9_ (b1 b2 : Nat) (D : List UInt8) (k : Nat) (hk : k < twoI.length) : FetchAt (twoP b1 b2 D) (512 + 8 * k) twoI[k].op twoI[k].a twoI[k].b twoI[k].c twoI[k].imm where
 at_ := by
  have hk' : k < 10 := hk
  refine ⟨0, m8_ (by omega) (by omega), ?_, rfl, ?_⟩
  · show _ - (512 : Int) + 8 ≤ 256; omega
  · intro w hf
    have := dec_any (twoI[k]'hk) (k4_ _ (List.getElem_mem hk)) w hf
    have e : gj_ (fm_ twoL b1) (512 + 8 * k) 8 = encI twoI[k] := by
     unfold gj_
     rw [k5_]
     show (twoL.drop (512 + 8 * (k : Int) - 512).toNat).take 8 = _
     rw [show (512 + 8 * (k : Int) - 512).toNat = 8 * k by omega]
     exact w9_ twoI _ k hk
    show Calls Tryz.prog 247 #[.string ⟨(gj_ (fm_ twoL b1) (512 + 8 * k) 8).toArray⟩, .int .i64 0] w _
    rw [e]
    exact this
 word := by rw [Int.tmod_eq_emod_of_nonneg (by omega)]; omega
end Two
namespace Two
open Go.RowKit
attribute [local go_sem] ak_ af_
theorem xa_ (s gp cap b1 b2 : Nat) (D : List UInt8) (k : Nat) (hk : k < twoI.length) (hop : twoI[k].op = 1) (r : Nat → Int) (w : World) (hA : AreasOk (twoP b1 b2 D)) (hsp : SpaceAt w s (.slice (some ⟨gp, 0, none⟩) (twoP b1 b2 D).length cap) (twoP b1 b2 D)) (hf : Forms w) :
 Calls Tryz.prog 74 #[.pointer (some ⟨s, 0, none⟩), .agg (cpuL r (512 + 8 * k)).toArray] w fun e w' => e = .returned (.tuple #[.agg (cpuL r (512 + 8 * k + 8)).toArray, .agg #[.int .i64 0, .int .i64 0]]) ∧ Only (fun _ => False) w w' ∧ SpaceAt w' s (.slice (some ⟨gp, 0, none⟩) (twoP b1 b2 D).length cap) (twoP b1 b2 D) := by
 have hfe := m9_ b1 b2 D k hk
 rw [hop] at hfe
 have hk' : k < 10 := hk
 exact lw_ s gp cap _ _ 248 1 _ _ _ _ r _ r _ 0 0 (fun _ => False) w hA hsp hf hfe (by omega) vidx1 (w7_ s gp cap _ _ _ _ _ r _) (fun x h => h.elim) (by omega) (fun args w => by kernel_rfl)
theorem uu_ (s gp cap b1 b2 : Nat) (D : List UInt8) (r : Nat → Int) (hr : r 15 = 2040) (w : World) (hA : AreasOk (twoP b1 b2 D)) (hsp : SpaceAt w s (.slice (some ⟨gp, 0, none⟩) (twoP b1 b2 D).length cap) (twoP b1 b2 D)) (hf : Forms w) (hb : b2 < w.heap.size) :
 Calls Tryz.prog 74 #[.pointer (some ⟨s, 0, none⟩), .agg (cpuL r 528).toArray] w fun e w' => e = .returned (.tuple #[.agg (cpuL (upd r 15 (r 15 - 8)) 576).toArray, .agg #[.int .i64 0, .int .i64 0]]) ∧ Only (fun x => x = b2) w w' ∧ SpaceAt w' s (.slice (some ⟨gp, 0, none⟩) (twoP b1 b2 D).length cap) ((twoP b1 b2 D).set 1 ((im_ b2 D).put (r 15 - 8) (ct_ 536))) := by
 have hfe := m9_ b1 b2 D 2 (by decide)
 have hl : LastAt (twoP b1 b2 D) (r 15 - 8) 1 := ic_ (by omega)
 have hd := us_ s gp cap (twoP b1 b2 D) 0 0 0 48 r 528 hA (by decide) (by decide) 1 hl (by show r 15 - 8 - (1024 : Int) + 8 ≤ 1024; omega) (by rw [hr]; decide) (by exact (by decide : (2 : Int) ≠ 0))
 exact lw_ s gp cap _ _ 276 22 0 0 0 48 r 528 _ 576 0 0 (fun x => x = b2) w hA hsp hf hfe (by decide) vidx22 hd (fun x h => by rw [h]; exact hb) (by decide) (fun args w => by kernel_rfl)
end Two
section
open Go.RowKit Wire
attribute [local go_sem] ak_ af_
theorem na_ (s : RS) : (br_ s).1 < 2 ^ 64 := by
 unfold br_
 split
 · rename_i m r h
   obtain ⟨q, e, _, hq, _⟩ := gn_ _ _ _ _ _ h
   simp at e hq
   show m < 2 ^ 64
   omega
 · show 0 < 2 ^ 64
   decide
theorem rnum (q : Nat) (rest : List UInt8) (bad db : Bool) (hsz : rest.length ≤ 140737488355328) (w : World) (h : WR w q rest bad) :
 Calls Tryz.prog 47 #[.pointer (some ⟨q, 0, none⟩)] w fun e w' => e = .returned (.int .i64 (numS ⟨rest, bad, db⟩).1) ∧ Only (· = q) w w' ∧ WR w' q (numS ⟨rest, bad, db⟩).2.rest (numS ⟨rest, bad, db⟩).2.wb := by
 have HG := h1_ h
 have hlt := na_ ⟨rest, bad, db⟩
 have HL := h1_ hlt
 clear h hlt
 go_enter Tryz.func47, Tryz.ntmps47
 go_wp2_with fail
 go_at_call 95
 refine (uj_ q rest bad db hsz _ HG.out).mono ?_
 rintro e w1 ⟨rfl, ho1, hw1⟩
 obtain ⟨m, hm⟩ : ∃ m, m = (br_ ⟨rest, bad, db⟩).1 := ⟨_, rfl⟩
 rw [← hm]
 have H1 := h3_ ho1 hw1 hm
 have hmlt : m < 18446744073709551616 := by have := HL.out; rw [← hm] at this; simpa using this
 by_cases hbig : 9223372036854775807 < m
 · have hb : (9223372036854775807 : Int) < (m : Int) := by omega
   have HB := h1_ hbig
   clear ho1 hw1 hm hmlt hbig
   go_wp2_with fail
   go_at_call 96
   refine (o8_ q _ _ _ H1.out.2.1).mono ?_
   rintro e w2 ⟨rfl, ho2, hw2⟩
   have H2 := h2_ ho2 hw2
   clear ho2 hw2
   go_wp2
   go_ret
   obtain ⟨ho1, hw1, hm⟩ := H1.out
   have e : numS ⟨rest, bad, db⟩ = (0, (br_ ⟨rest, bad, db⟩).2.fail) := by unfold numS; rw [← hm, if_pos HB.out]
   rw [e]
   exact ⟨rfl, ho1.trans H2.out.1, H2.out.2⟩
 · have hb : ¬ (9223372036854775807 : Int) < (m : Int) := by omega
   have hcv : IntKind.i64.wrap (m : Int) = (m : Int) := IntWalk.i64_in _ (by omega)
   have HB := h1_ hbig
   clear ho1 hw1 hm hmlt hbig
   go_wp2
   go_ret
   obtain ⟨ho1, hw1, hm⟩ := H1.out
   have e : numS ⟨rest, bad, db⟩ = br_ ⟨rest, bad, db⟩ := by unfold numS; rw [← hm, if_neg HB.out]
   rw [e, ← hm]
   exact ⟨rfl, ho1, hw1⟩
theorem rint (q : Nat) (rest : List UInt8) (bad db : Bool) (hsz : rest.length ≤ 140737488355328) (w : World) (h : WR w q rest bad) :
 Calls Tryz.prog 50 #[.pointer (some ⟨q, 0, none⟩)] w fun e w' => e = .returned (.int .i64 (intS ⟨rest, bad, db⟩).1) ∧ Only (· = q) w w' ∧ WR w' q (intS ⟨rest, bad, db⟩).2.rest (intS ⟨rest, bad, db⟩).2.wb := by
 have HG := h1_ h
 have hlt := na_ ⟨rest, bad, db⟩
 have HL := h1_ hlt
 clear h hlt
 go_enter Tryz.func50, Tryz.ntmps50
 go_wp2_with fail
 go_at_call 95
 refine (uj_ q rest bad db hsz _ HG.out).mono ?_
 rintro e w1 ⟨rfl, ho1, hw1⟩
 obtain ⟨m, hm⟩ : ∃ m, m = (br_ ⟨rest, bad, db⟩).1 := ⟨_, rfl⟩
 rw [← hm]
 have H1 := h3_ ho1 hw1 hm
 have hmlt : m < 18446744073709551616 := by have := HL.out; rw [← hm] at this; simpa using this
 have ha : bits .and .u64 (m : Int) 1 = ((m % 2 : Nat) : Int) := by
  have e : (1 : Int) = ((1 : Nat) : Int) := rfl
  rw [e, u64_and_nat m 1 hmlt (by decide), Nat.and_one_is_mod]
 have HM := h2_ hmlt ha
 clear ho1 hw1 hm ha
 go_wp2
 go_ret
 obtain ⟨ho1, hw1, hm⟩ := H1.out
 obtain ⟨hmlt, ha⟩ := HM.out
 unfold intS
 rw [← hm]
 refine ⟨?_, ho1, hw1⟩
 rw [ha]
 have e1 : wrap64 (((m % 2 : Nat) : Int)) = ((m % 2 : Nat) : Int) := by simp only [wrap64]; omega
 have e2 : wrap64 (-((m % 2 : Nat) : Int)) = -((m % 2 : Nat) : Int) := by simp only [wrap64]; omega
 rw [e1, e2, show (m : Int) / 2 = ((m / 2 : Nat) : Int) by omega, ry_ m hmlt _ rfl]; rfl
theorem rtext (q : Nat) (rest : List UInt8) (bad db : Bool) (hsz : rest.length ≤ 140737488355328) (w : World) (h : WR w q rest bad) :
 Calls Tryz.prog 49 #[.pointer (some ⟨q, 0, none⟩)] w fun e w' => e = .returned (strB (d8_ ⟨rest, bad, db⟩).1) ∧ Only (· = q) w w' ∧ WR w' q (d8_ ⟨rest, bad, db⟩).2.rest (d8_ ⟨rest, bad, db⟩).2.wb := by
 have HG := h1_ h
 clear h
 go_enter Tryz.func49, Tryz.ntmps49
 go_wp2_with fail
 go_at_call 47
 refine (rnum q rest bad db hsz _ HG.out).mono ?_
 rintro e w1 ⟨rfl, ho1, hw1⟩
 obtain ⟨m, hm⟩ : ∃ m, m = (numS ⟨rest, bad, db⟩).1 := ⟨_, rfl⟩
 obtain ⟨r, hr⟩ : ∃ r, r = (numS ⟨rest, bad, db⟩).2.rest := ⟨_, rfl⟩
 obtain ⟨bd, hbd⟩ : ∃ bd, bd = (numS ⟨rest, bad, db⟩).2.wb := ⟨_, rfl⟩
 rw [← hm]
 rw [← hr, ← hbd] at hw1
 have hk := hw1
 unfold WR strB at hk
 obtain ⟨S, hS⟩ : ∃ S, S = (⟨r.toArray⟩ : ByteArray) := ⟨_, rfl⟩
 rw [← hS] at hk
 have hSz : S.size = r.length := by rw [hS]; rfl
 have c0 := ab_ hk 0 rfl
 have f0 := ag_ hk 0
 have H1 := h8_ ho1 hw1 hm hr hbd hS hSz hk
 by_cases hbig : r.length < m
 · have hb : (S.size : Int) < (m : Int) := by omega
   clear ho1 hw1 hm hr hbd hS hSz hk
   go_wp2_with fail
   go_at_call 96
   refine (o8_ q _ _ _ H1.out.2.1).mono ?_
   rintro e w2 ⟨rfl, ho2, hw2⟩
   have H2 := h2_ ho2 hw2
   clear ho2 hw2
   go_wp2
   go_ret
   obtain ⟨ho1, hw1, hm, hr, hbd, hS, hSz, hk⟩ := H1.out
   have e : d8_ ⟨rest, bad, db⟩ = ([], (numS ⟨rest, bad, db⟩).2.fail) := by unfold d8_; rw [← hm, ← hr, if_pos hbig]
   rw [e]
   exact ⟨rfl, ho1.trans H2.out.1, H2.out.2⟩
 · have hb : (m : Int) ≤ (S.size : Int) := by omega
   have hmS : m ≤ S.size := by omega
   clear ho1 hw1 hm hr hbd hS hSz hk
   go_wp2
   go_ret
   obtain ⟨ho1, hw1, hm, hr, hbd, hS, hSz, hk⟩ := H1.out
   have e : d8_ ⟨rest, bad, db⟩ = (r.take m, ⟨r.drop m, bd, (numS ⟨rest, bad, db⟩).2.db⟩) := by unfold d8_; rw [← hm, ← hr, if_neg hbig, ← hbd]
   rw [e]
   have e1 : S.extract 0 m = ⟨(r.take m).toArray⟩ := by rw [hS]; exact ql_ r m
   have e2 : S.extract m S.size = ⟨(r.drop m).toArray⟩ := by rw [hS]; exact lt_ r m
   have h1 := aj_ hk 0 (.string (S.extract m S.size))
   rw [e2] at h1
   rw [e1, e2]
   exact ⟨rfl, ho1.setCell _ _ (.inl rfl), h1⟩
theorem el_ (q : Nat) (rest : List UInt8) (bad : Bool) (w : World) (h : WR w q rest bad) :
 Calls Tryz.prog 48 #[.pointer (some ⟨q, 0, none⟩)] w fun e w' => e = .returned (.int .i64 rest.length) ∧ w = w' := by
 unfold WR strB at h
 obtain ⟨S, hS⟩ : ∃ S, S = (⟨rest.toArray⟩ : ByteArray) := ⟨_, rfl⟩
 rw [← hS] at h
 have hSz : rest.length = S.size := by rw [hS]; rfl
 have c0 := ab_ h 0 rfl
 rw [hSz]
 clear h hS hSz
 go_enter Tryz.func48, Tryz.ntmps48
 go_wp2
 go_ret
 exact ⟨rfl, rfl⟩
theorem rdone (q : Nat) (rest : List UInt8) (bad : Bool) (w : World) (h : WR w q rest bad) :
 Calls Tryz.prog 29 #[.pointer (some ⟨q, 0, none⟩)] w fun e w' => e = .returned (.bool (!bad && rest.isEmpty)) ∧ w = w' := by
 unfold WR strB at h
 obtain ⟨S, hS⟩ : ∃ S, S = (⟨rest.toArray⟩ : ByteArray) := ⟨_, rfl⟩
 rw [← hS] at h
 have c0 := ab_ h 0 rfl
 have c1 := ab_ h 1 rfl
 have HS := h1_ hS
 clear h hS
 cases bad
 · go_enter Tryz.func29, Tryz.ntmps29
   go_wp2
   go_ret
   rw [HS.out, ByteArray.toList_eq]
   exact ⟨by simp, rfl⟩
 · go_enter Tryz.func29, Tryz.ntmps29
   go_wp2
   go_ret
   exact ⟨rfl, rfl⟩
theorem ropen (l : List UInt8) (w : World) :
 Calls Tryz.prog 20 #[strB l] w fun e w' => e = .returned (.pointer (some ⟨w.heap.size, 0, none⟩)) ∧ Below w.heap.size w w' ∧ WR w' w.heap.size l false ∧ w.heap.size < w'.heap.size := by
 unfold strB WR strB
 obtain ⟨S, hS⟩ : ∃ S, S = (⟨l.toArray⟩ : ByteArray) := ⟨_, rfl⟩
 rw [← hS]
 clear hS
 go_enter Tryz.func20, Tryz.ntmps20
 go_wp2
 go_ret
 exact ⟨rfl, (Below.refl _ _).alloc (Nat.le_refl _) _, heap_alloc_new _ _, by simp⟩
end
section
open Go.RowKit Wire
attribute [local go_sem] ak_ af_
structure DR (w : World) (qd q : Nat) (s : RS) : Prop where
 head : w.heap[qd]? = some (.cells [.pointer (some ⟨q, 0, none⟩), .bool s.db].toArray 95 (0, 0))
 read : WR w q s.rest s.wb
 len : s.rest.length ≤ 140737488355328
theorem DR.c0 {w : World} {qd q : Nat} {s : RS} (h : DR w qd q s) : w.cell? ⟨qd, 0, none⟩ = some (.pointer (some ⟨q, 0, none⟩)) := ab_ h.head 0 rfl
theorem DR.c1 {w : World} {qd q : Nat} {s : RS} (h : DR w qd q s) : w.cell? ⟨qd, 1, none⟩ = some (.bool s.db) := ab_ h.head 1 rfl
theorem DR.f1 {w : World} {qd q : Nat} {s : RS} (h : DR w qd q s) : w.frozen? ⟨qd, 1, none⟩ = false := ag_ h.head 1
theorem DR.ne {w : World} {qd q : Nat} {s : RS} (h : DR w qd q s) : qd ≠ q := am_ h.head h.read (by decide)
theorem DR.lq {w : World} {qd q : Nat} {s : RS} (h : DR w qd q s) : q < w.heap.size := lt_of_block h.read
theorem DR.lqd {w : World} {qd q : Nat} {s : RS} (h : DR w qd q s) : qd < w.heap.size := lt_of_block h.head
theorem DR.drew {w : World} {qd q : Nat} {s : RS} (h : DR w qd q s) : DR w.drew qd q s := ⟨h.head, h.read, h.len⟩
theorem DR.below {w w' : World} {qd q : Nat} {s : RS} (h : DR w qd q s) (hb : Below w.heap.size w w') : DR w' qd q s := ⟨(hb.block _ h.lqd).trans h.head, (hb.block _ h.lq).trans h.read, h.len⟩
def DS (qd q : Nat) (x : Nat) : Prop := x = q ∨ x = qd
theorem DR.step {w w' : World} {qd q : Nat} {s : RS} (h : DR w qd q s) {t : RS} (ho : Only (· = q) w w') (hw : WR w' q t.rest t.wb) (hdb : t.db = s.db) (hl : t.rest.length ≤ s.rest.length) : DR w' qd q t :=
 ⟨by rw [hdb]; exact ho.kept h.head h.ne, hw, Nat.le_trans hl h.len⟩
theorem id_ (s : RS) : (br_ s).2.rest.length ≤ s.rest.length := by
 unfold br_
 split
 · rename_i m r h
   obtain ⟨q, _, e, _⟩ := gn_ _ _ _ _ _ h
   rw [e, List.length_append]
   show r.length ≤ _
   omega
 · show 0 ≤ _
   omega
theorem gt_ (s : RS) : (numS s).2.rest.length ≤ s.rest.length := by
 unfold numS
 split
 · show 0 ≤ _
   omega
 · exact id_ s
theorem qp_ (s : RS) : (d8_ s).2.rest.length ≤ s.rest.length := by
 have := gt_ s
 unfold d8_
 split
 · show 0 ≤ _
   omega
 · show ((numS s).2.rest.drop _).length ≤ _
   rw [List.length_drop]; omega
theorem text_db (s : RS) : (d8_ s).2.db = s.db := by
 unfold d8_
 split
 · exact (go_ s).2
 · exact (go_ s).2
theorem int_db (s : RS) : (intS s).2.db = s.db := (f4_ s).2
theorem dnum (qd q : Nat) (s : RS) (w : World) (h : DR w qd q s) : Calls Tryz.prog 47 #[.pointer (some ⟨q, 0, none⟩)] w fun e w' => e = .returned (.int .i64 (numS s).1) ∧ Only (· = q) w w' ∧ DR w' qd q (numS s).2 :=
 (rnum q s.rest s.wb s.db h.len w h.read).mono fun e w' ⟨he, ho, hw⟩ => ⟨he, ho, h.step ho hw (go_ s).2 (gt_ s)⟩
theorem dint (qd q : Nat) (s : RS) (w : World) (h : DR w qd q s) : Calls Tryz.prog 50 #[.pointer (some ⟨q, 0, none⟩)] w fun e w' => e = .returned (.int .i64 (intS s).1) ∧ Only (· = q) w w' ∧ DR w' qd q (intS s).2 :=
 (rint q s.rest s.wb s.db h.len w h.read).mono fun e w' ⟨he, ho, hw⟩ => ⟨he, ho, h.step ho hw (int_db s) (id_ s)⟩
theorem dtext (qd q : Nat) (s : RS) (w : World) (h : DR w qd q s) : Calls Tryz.prog 49 #[.pointer (some ⟨q, 0, none⟩)] w fun e w' => e = .returned (strB (d8_ s).1) ∧ Only (· = q) w w' ∧ DR w' qd q (d8_ s).2 :=
 (rtext q s.rest s.wb s.db h.len w h.read).mono fun e w' ⟨he, ho, hw⟩ => ⟨he, ho, h.step ho hw (text_db s) (qp_ s)⟩
def stAt (l : List RS) (k : Nat) : RS := (l[k]?).getD ⟨[], false, false⟩
theorem ko_ {qd q : Nat} {s t : RS} {v : Int} (e : intS s = (v, t)) (w : World) (h : DR w qd q s) : Calls Tryz.prog 50 #[.pointer (some ⟨q, 0, none⟩)] w fun e w' => e = .returned (.int .i64 v) ∧ Only (· = q) w w' ∧ DR w' qd q t := by
 have := dint qd q s w h
 rw [e] at this
 exact this
theorem k6_ {qd q : Nat} {s t : RS} {v : List UInt8} (e : d8_ s = (v, t)) (w : World) (h : DR w qd q s) : Calls Tryz.prog 49 #[.pointer (some ⟨q, 0, none⟩)] w fun e w' => e = .returned (.string ⟨v.toArray⟩) ∧ Only (· = q) w w' ∧ DR w' qd q t := by
 have := dtext qd q s w h
 rw [e] at this
 exact this
theorem dspan (qd q : Nat) (s : RS) (w : World) (h : DR w qd q s) :
 Calls Tryz.prog 51 #[.pointer (some ⟨qd, 0, none⟩)] w fun e w' => e = .returned (.agg #[.int .i64 ((dn_ intS intS) s).1.1, .int .i64 ((dn_ intS intS) s).1.2]) ∧ Only (· = q) w w' ∧ DR w' qd q ((dn_ intS intS) s).2 := by
 obtain ⟨v0, s1, e0⟩ : ∃ v t, intS s = (v, t) := ⟨_, _, rfl⟩
 have E0 := h1_ e0
 obtain ⟨v1, s2, e1⟩ : ∃ v t, intS s1 = (v, t) := ⟨_, _, rfl⟩
 have E1 := h1_ e1
 have hfin : ((dn_ intS intS)) s = ((v0, v1), s2) := by
  simp only [dn_, e0, e1]
 rw [hfin]
 dsimp only
 have hlq := h.lq
 have hlw := h.lqd
 have HH := h1_ h
 clear h hfin e0 e1
 go_enter Tryz.func51, Tryz.ntmps51
 go_upto_region 1 with fail
 refine ac_ fun V hV => ?_
 have vB : Below w.heap.size w V := by rw [← hV]; go_grown
 have vD := HH.out.below vB
 have v2 : V.heap[w.heap.size]? = some (.cells #[.int .i64 0, .int .i64 0] 67 (0, 0)) := by rw [← hV]; exact heap_alloc_new _ _
 have lV : w.heap.size ≤ V.heap.size := vB.size
 have HV := h3_ vB vD v2
 clear hV vB vD v2
 refine wq_ 11 [4, 9] ((· = q)) [.pt qd 0, .pt qd 0, .pt qd 0, .pt q 0, .val (.int .i64 v0), .pt qd 0, .pt qd 0, .pt qd 0, .pt q 0, .val (.int .i64 v1), .val (.agg #[.int .i64 v0, .int .i64 v1])] (fun k x => DR x qd q (stAt [s, s1, s2] k)) (by kernel_rfl) (by kernel_rfl) (HV.out.2.1.drew) ?_ ?_
 · simp only [a4_, List.take]
   refine ⟨?_, ?_, ?_, ?_, ?_, ?_, ?_, ?_, ?_, ?_, ?_, trivial⟩
   all_goals intro k a wr ho hJ hk hr hf hd
   · have h0 : zp_ a 0 qd 0 := (hf 0).trans rfl
     exact dp_ hJ (by simp [execOp, h0, go_sem])
   · have h3 : z_ a 3 _ := hd 0
     exact dp_ hJ (by simp [execOp, h3, go_sem])
   · have h4 : z_ a 4 _ := hd 1
     exact dp_ hJ (by simp [execOp, h4, go_sem])
   · have h5 : z_ a 5 _ := hd 2
     have hc := hJ.c0
     exact dp_ hJ (by simp [execOp, h5, hc, go_sem])
   · have h6 : z_ a 6 _ := hd 3
     obtain rfl := hk 0 (by decide) rfl
     exact a0_ (f := 50) (args := #[.pointer (some ⟨q, 0, none⟩)]) (by simp [execOp, h6, go_sem]) ((ko_ E0.out _ hJ).mono fun e w' ⟨he, ho, hw⟩ => ⟨_, he, rfl, ho, hw⟩)
   · have h0 : zp_ a 0 qd 0 := (hf 0).trans rfl
     exact dp_ hJ (by simp [execOp, h0, go_sem])
   · have h8 : z_ a 8 _ := hd 5
     exact dp_ hJ (by simp [execOp, h8, go_sem])
   · have h9 : z_ a 9 _ := hd 6
     exact dp_ hJ (by simp [execOp, h9, go_sem])
   · have h10 : z_ a 10 _ := hd 7
     have hc := hJ.c0
     exact dp_ hJ (by simp [execOp, h10, hc, go_sem])
   · have h11 : z_ a 11 _ := hd 8
     obtain rfl := hk 1 (by decide) rfl
     exact a0_ (f := 50) (args := #[.pointer (some ⟨q, 0, none⟩)]) (by simp [execOp, h11, go_sem]) ((ko_ E1.out _ hJ).mono fun e w' ⟨he, ho, hw⟩ => ⟨_, he, rfl, ho, hw⟩)
   · have h7 : z_ a 7 _ := hd 4
     have h12 : z_ a 12 _ := hd 9
     exact dp_ hJ (by simp [execOp, h7, h12, go_sem])
 · intro fv w2 ho2 hj hs
   rw [seqv hs [3, 4, 5, 6, 7, 8, 9, 10, 11, 12, 13] (by kernel_rfl)]
   simp only [actV, Act.put, List.drop, List.length, List.setIfInBounds_toArray, List.set_cons_zero, List.set_cons_succ]
   clear hs
   have k2 := ho2.kept HV.out.2.2 (by omega)
   have l2 := lt_of_block k2
   have HJ := h2_ ho2 hj
   clear ho2 hj
   go_wp2_with ((with_reducible refine ad_ ?_); refine sr_ rfl rfl (h := ?_); (try simp only [World.setRow_alloc_new]))
   refine bodyPost_ret (results_cell_row rfl _ _ w.heap.size _ _ _ _ rfl (setRow_heap _ _ _ _ _ _ k2) Tryz.underlying67 rfl (by kernel_rfl)) rfl ?_
   obtain ⟨ho2, hj⟩ := HJ.out
   have oS := (Only.refl (· = w.heap.size) w2).setRow w.heap.size #[.int .i64 v0, .int .i64 v1] (.inl rfl)
   refine ⟨rfl, ((Only.of_below HV.out.1).trans ho2).then oS (by intro b hb e; omega), ?_⟩
   have hj' : DR w2 qd q s2 := hj
   exact ⟨oS.kept hj'.head (by omega), oS.kept hj'.read (by omega), hj'.len⟩
theorem dspan' {qd q : Nat} {s t u : RS} {v x : Int} (e : intS s = (v, t)) (e2 : intS t = (x, u)) (w : World) (h : DR w qd q s) : Calls Tryz.prog 51 #[.pointer (some ⟨qd, 0, none⟩)] w fun e w' => e = .returned (.agg #[.int .i64 v, .int .i64 x]) ∧ Only (· = q) w w' ∧ DR w' qd q u := by
 have := dspan qd q s w h
 have hf : (dn_ intS intS) s = ((v, x), u) := by simp only [dn_, e, e2]
 rw [hf] at this
 exact this
theorem dchunk (qd q : Nat) (s : RS) (w : World) (h : DR w qd q s) :
 Calls Tryz.prog 28 #[.pointer (some ⟨qd, 0, none⟩)] w fun e w' => e = .returned (.agg #[.int .i64 (chkS s).1.1, strB (chkS s).1.2]) ∧ Only (· = q) w w' ∧ DR w' qd q (chkS s).2 := by
 obtain ⟨v0, s1, e0⟩ : ∃ v t, intS s = (v, t) := ⟨_, _, rfl⟩
 have E0 := h1_ e0
 obtain ⟨v1, s2, e1⟩ : ∃ v t, d8_ s1 = (v, t) := ⟨_, _, rfl⟩
 have E1 := h1_ e1
 have hfin : chkS s = ((v0, v1), s2) := by
  unfold chkS
  simp only [dn_, e0, e1]
 rw [hfin]
 dsimp only
 unfold strB
 have hlq := h.lq
 have hlw := h.lqd
 have HH := h1_ h
 clear h hfin e0 e1
 go_enter Tryz.func28, Tryz.ntmps28
 go_upto_region 1 with fail
 refine ac_ fun V hV => ?_
 have vB : Below w.heap.size w V := by rw [← hV]; go_grown
 have vD := HH.out.below vB
 have v2 : V.heap[w.heap.size]? = some (.cells #[.int .i64 0, .string ⟨#[]⟩] 65 (0, 0)) := by rw [← hV]; exact heap_alloc_new _ _
 have lV : w.heap.size ≤ V.heap.size := vB.size
 have HV := h3_ vB vD v2
 clear hV vB vD v2
 refine wq_ 11 [4, 9] ((· = q)) [.pt qd 0, .pt qd 0, .pt qd 0, .pt q 0, .val (.int .i64 v0), .pt qd 0, .pt qd 0, .pt qd 0, .pt q 0, .val (.string ⟨v1.toArray⟩), .val (.agg #[.int .i64 v0, .string ⟨v1.toArray⟩])] (fun k x => DR x qd q (stAt [s, s1, s2] k)) (by kernel_rfl) (by kernel_rfl) (HV.out.2.1.drew) ?_ ?_
 · simp only [a4_, List.take]
   refine ⟨?_, ?_, ?_, ?_, ?_, ?_, ?_, ?_, ?_, ?_, ?_, trivial⟩
   all_goals intro k a wr ho hJ hk hr hf hd
   · have h0 : zp_ a 0 qd 0 := (hf 0).trans rfl
     exact dp_ hJ (by simp [execOp, h0, go_sem])
   · have h3 : z_ a 3 _ := hd 0
     exact dp_ hJ (by simp [execOp, h3, go_sem])
   · have h4 : z_ a 4 _ := hd 1
     exact dp_ hJ (by simp [execOp, h4, go_sem])
   · have h5 : z_ a 5 _ := hd 2
     have hc := hJ.c0
     exact dp_ hJ (by simp [execOp, h5, hc, go_sem])
   · have h6 : z_ a 6 _ := hd 3
     obtain rfl := hk 0 (by decide) rfl
     exact a0_ (f := 50) (args := #[.pointer (some ⟨q, 0, none⟩)]) (by simp [execOp, h6, go_sem]) ((ko_ E0.out _ hJ).mono fun e w' ⟨he, ho, hw⟩ => ⟨_, he, rfl, ho, hw⟩)
   · have h0 : zp_ a 0 qd 0 := (hf 0).trans rfl
     exact dp_ hJ (by simp [execOp, h0, go_sem])
   · have h8 : z_ a 8 _ := hd 5
     exact dp_ hJ (by simp [execOp, h8, go_sem])
   · have h9 : z_ a 9 _ := hd 6
     exact dp_ hJ (by simp [execOp, h9, go_sem])
   · have h10 : z_ a 10 _ := hd 7
     have hc := hJ.c0
     exact dp_ hJ (by simp [execOp, h10, hc, go_sem])
   · have h11 : z_ a 11 _ := hd 8
     obtain rfl := hk 1 (by decide) rfl
     exact a0_ (f := 49) (args := #[.pointer (some ⟨q, 0, none⟩)]) (by simp [execOp, h11, go_sem]) ((k6_ E1.out _ hJ).mono fun e w' ⟨he, ho, hw⟩ => ⟨_, he, rfl, ho, hw⟩)
   · have h7 : z_ a 7 _ := hd 4
     have h12 : z_ a 12 _ := hd 9
     exact dp_ hJ (by simp [execOp, h7, h12, go_sem])
 · intro fv w2 ho2 hj hs
   rw [seqv hs [3, 4, 5, 6, 7, 8, 9, 10, 11, 12, 13] (by kernel_rfl)]
   simp only [actV, Act.put, List.drop, List.length, List.setIfInBounds_toArray, List.set_cons_zero, List.set_cons_succ]
   clear hs
   have k2 := ho2.kept HV.out.2.2 (by omega)
   have l2 := lt_of_block k2
   have HJ := h2_ ho2 hj
   clear ho2 hj
   go_wp2_with ((with_reducible refine ad_ ?_); refine sr_ rfl rfl (h := ?_); (try simp only [World.setRow_alloc_new]))
   refine bodyPost_ret (results_cell_row rfl _ _ w.heap.size _ _ _ _ rfl (setRow_heap _ _ _ _ _ _ k2) Tryz.underlying65 rfl (by kernel_rfl)) rfl ?_
   obtain ⟨ho2, hj⟩ := HJ.out
   have oS := (Only.refl (· = w.heap.size) w2).setRow w.heap.size #[.int .i64 v0, .string ⟨v1.toArray⟩] (.inl rfl)
   refine ⟨rfl, ((Only.of_below HV.out.1).trans ho2).then oS (by intro b hb e; omega), ?_⟩
   have hj' : DR w2 qd q s2 := hj
   exact ⟨oS.kept hj'.head (by omega), oS.kept hj'.read (by omega), hj'.len⟩
theorem xb_ (qd q : Nat) (s : RS) (w : World) (h : DR w qd q s) :
 Calls Tryz.prog 24 #[.pointer (some ⟨qd, 0, none⟩)] w fun e w' => e = .returned (.agg #[.int .i64 (strS s).1.1, strB (strS s).1.2.1, strB (strS s).1.2.2.1, strB (strS s).1.2.2.2.1, .int .i64 (strS s).1.2.2.2.2.1, .int .i64 (strS s).1.2.2.2.2.2.1, .int .i64 (strS s).1.2.2.2.2.2.2]) ∧ Only (· = q) w w' ∧ DR w' qd q (strS s).2 := by
 obtain ⟨v0, s1, e0⟩ : ∃ v t, intS s = (v, t) := ⟨_, _, rfl⟩
 have E0 := h1_ e0
 obtain ⟨v1, s2, e1⟩ : ∃ v t, d8_ s1 = (v, t) := ⟨_, _, rfl⟩
 have E1 := h1_ e1
 obtain ⟨v2, s3, e2⟩ : ∃ v t, d8_ s2 = (v, t) := ⟨_, _, rfl⟩
 have E2 := h1_ e2
 obtain ⟨v3, s4, e3⟩ : ∃ v t, d8_ s3 = (v, t) := ⟨_, _, rfl⟩
 have E3 := h1_ e3
 obtain ⟨v4, s5, e4⟩ : ∃ v t, intS s4 = (v, t) := ⟨_, _, rfl⟩
 have E4 := h1_ e4
 obtain ⟨v5, s6, e5⟩ : ∃ v t, intS s5 = (v, t) := ⟨_, _, rfl⟩
 have E5 := h1_ e5
 obtain ⟨v6, s7, e6⟩ : ∃ v t, intS s6 = (v, t) := ⟨_, _, rfl⟩
 have E6 := h1_ e6
 have hfin : strS s = ((v0, v1, v2, v3, v4, v5, v6), s7) := by
  unfold strS
  simp only [dn_, e0, e1, e2, e3, e4, e5, e6]
 rw [hfin]
 dsimp only
 unfold strB
 have hlq := h.lq
 have hlw := h.lqd
 have HH := h1_ h
 clear h hfin e0 e1 e2 e3 e4 e5 e6
 go_enter Tryz.func24, Tryz.ntmps24
 go_upto_region 1 with fail
 refine ac_ fun V hV => ?_
 have vB : Below w.heap.size w V := by rw [← hV]; go_grown
 have vD := HH.out.below vB
 have v2 : V.heap[w.heap.size]? = some (.cells #[.int .i64 0, .string ⟨#[]⟩, .string ⟨#[]⟩, .string ⟨#[]⟩, .int .i64 0, .int .i64 0, .int .i64 0] 88 (0, 0)) := by rw [← hV]; exact heap_alloc_new _ _
 have lV : w.heap.size ≤ V.heap.size := vB.size
 have HV := h3_ vB vD v2
 clear hV vB vD v2
 refine wq_ 28 [4, 9, 14, 19, 24, 26] ((· = q)) [.pt qd 0, .pt qd 0, .pt qd 0, .pt q 0, .val (.int .i64 v0), .pt qd 0, .pt qd 0, .pt qd 0, .pt q 0, .val (.string ⟨v1.toArray⟩), .pt qd 0, .pt qd 0, .pt qd 0, .pt q 0, .val (.string ⟨v2.toArray⟩), .pt qd 0, .pt qd 0, .pt qd 0, .pt q 0, .val (.string ⟨v3.toArray⟩), .pt qd 0, .pt qd 0, .pt qd 0, .pt q 0, .val (.int .i64 v4), .pt qd 0, .val (.agg #[.int .i64 v5, .int .i64 v6]), .val (.agg #[.int .i64 v0, .string ⟨v1.toArray⟩, .string ⟨v2.toArray⟩, .string ⟨v3.toArray⟩, .int .i64 v4, .int .i64 v5, .int .i64 v6])] (fun k x => DR x qd q (stAt [s, s1, s2, s3, s4, s5, s7] k)) (by kernel_rfl) (by kernel_rfl) (HV.out.2.1.drew) ?_ ?_
 · simp only [a4_, List.take]
   refine ⟨?_, ?_, ?_, ?_, ?_, ?_, ?_, ?_, ?_, ?_, ?_, ?_, ?_, ?_, ?_, ?_, ?_, ?_, ?_, ?_, ?_, ?_, ?_, ?_, ?_, ?_, ?_, ?_, trivial⟩
   all_goals intro k a wr ho hJ hk hr hf hd
   · have h0 : zp_ a 0 qd 0 := (hf 0).trans rfl
     exact dp_ hJ (by simp [execOp, h0, go_sem])
   · have h3 : z_ a 3 _ := hd 0
     exact dp_ hJ (by simp [execOp, h3, go_sem])
   · have h4 : z_ a 4 _ := hd 1
     exact dp_ hJ (by simp [execOp, h4, go_sem])
   · have h5 : z_ a 5 _ := hd 2
     have hc := hJ.c0
     exact dp_ hJ (by simp [execOp, h5, hc, go_sem])
   · have h6 : z_ a 6 _ := hd 3
     obtain rfl := hk 0 (by decide) rfl
     exact a0_ (f := 50) (args := #[.pointer (some ⟨q, 0, none⟩)]) (by simp [execOp, h6, go_sem]) ((ko_ E0.out _ hJ).mono fun e w' ⟨he, ho, hw⟩ => ⟨_, he, rfl, ho, hw⟩)
   · have h0 : zp_ a 0 qd 0 := (hf 0).trans rfl
     exact dp_ hJ (by simp [execOp, h0, go_sem])
   · have h8 : z_ a 8 _ := hd 5
     exact dp_ hJ (by simp [execOp, h8, go_sem])
   · have h9 : z_ a 9 _ := hd 6
     exact dp_ hJ (by simp [execOp, h9, go_sem])
   · have h10 : z_ a 10 _ := hd 7
     have hc := hJ.c0
     exact dp_ hJ (by simp [execOp, h10, hc, go_sem])
   · have h11 : z_ a 11 _ := hd 8
     obtain rfl := hk 1 (by decide) rfl
     exact a0_ (f := 49) (args := #[.pointer (some ⟨q, 0, none⟩)]) (by simp [execOp, h11, go_sem]) ((k6_ E1.out _ hJ).mono fun e w' ⟨he, ho, hw⟩ => ⟨_, he, rfl, ho, hw⟩)
   · have h0 : zp_ a 0 qd 0 := (hf 0).trans rfl
     exact dp_ hJ (by simp [execOp, h0, go_sem])
   · have h13 : z_ a 13 _ := hd 10
     exact dp_ hJ (by simp [execOp, h13, go_sem])
   · have h14 : z_ a 14 _ := hd 11
     exact dp_ hJ (by simp [execOp, h14, go_sem])
   · have h15 : z_ a 15 _ := hd 12
     have hc := hJ.c0
     exact dp_ hJ (by simp [execOp, h15, hc, go_sem])
   · have h16 : z_ a 16 _ := hd 13
     obtain rfl := hk 2 (by decide) rfl
     exact a0_ (f := 49) (args := #[.pointer (some ⟨q, 0, none⟩)]) (by simp [execOp, h16, go_sem]) ((k6_ E2.out _ hJ).mono fun e w' ⟨he, ho, hw⟩ => ⟨_, he, rfl, ho, hw⟩)
   · have h0 : zp_ a 0 qd 0 := (hf 0).trans rfl
     exact dp_ hJ (by simp [execOp, h0, go_sem])
   · have h18 : z_ a 18 _ := hd 15
     exact dp_ hJ (by simp [execOp, h18, go_sem])
   · have h19 : z_ a 19 _ := hd 16
     exact dp_ hJ (by simp [execOp, h19, go_sem])
   · have h20 : z_ a 20 _ := hd 17
     have hc := hJ.c0
     exact dp_ hJ (by simp [execOp, h20, hc, go_sem])
   · have h21 : z_ a 21 _ := hd 18
     obtain rfl := hk 3 (by decide) rfl
     exact a0_ (f := 49) (args := #[.pointer (some ⟨q, 0, none⟩)]) (by simp [execOp, h21, go_sem]) ((k6_ E3.out _ hJ).mono fun e w' ⟨he, ho, hw⟩ => ⟨_, he, rfl, ho, hw⟩)
   · have h0 : zp_ a 0 qd 0 := (hf 0).trans rfl
     exact dp_ hJ (by simp [execOp, h0, go_sem])
   · have h23 : z_ a 23 _ := hd 20
     exact dp_ hJ (by simp [execOp, h23, go_sem])
   · have h24 : z_ a 24 _ := hd 21
     exact dp_ hJ (by simp [execOp, h24, go_sem])
   · have h25 : z_ a 25 _ := hd 22
     have hc := hJ.c0
     exact dp_ hJ (by simp [execOp, h25, hc, go_sem])
   · have h26 : z_ a 26 _ := hd 23
     obtain rfl := hk 4 (by decide) rfl
     exact a0_ (f := 50) (args := #[.pointer (some ⟨q, 0, none⟩)]) (by simp [execOp, h26, go_sem]) ((ko_ E4.out _ hJ).mono fun e w' ⟨he, ho, hw⟩ => ⟨_, he, rfl, ho, hw⟩)
   · have h0 : zp_ a 0 qd 0 := (hf 0).trans rfl
     exact dp_ hJ (by simp [execOp, h0, go_sem])
   · have h28 : z_ a 28 _ := hd 25
     obtain rfl := hk 5 (by decide) rfl
     exact a0_ (f := 51) (args := #[.pointer (some ⟨qd, 0, none⟩)]) (by simp [execOp, h28, go_sem]) ((dspan' E5.out E6.out _ hJ).mono fun e w' ⟨he, ho, hw⟩ => ⟨_, he, rfl, ho, hw⟩)
   · have h7 : z_ a 7 _ := hd 4
     have h12 : z_ a 12 _ := hd 9
     have h17 : z_ a 17 _ := hd 14
     have h22 : z_ a 22 _ := hd 19
     have h27 : z_ a 27 _ := hd 24
     have h29 : z_ a 29 _ := hd 26
     exact dp_ hJ (by simp [execOp, h7, h12, h17, h22, h27, h29, go_sem])
 · intro fv w2 ho2 hj hs
   rw [seqv hs [3, 4, 5, 6, 7, 8, 9, 10, 11, 12, 13, 14, 15, 16, 17, 18, 19, 20, 21, 22, 23, 24, 25, 26, 27, 28, 29, 30] (by kernel_rfl)]
   simp only [actV, Act.put, List.drop, List.length, List.setIfInBounds_toArray, List.set_cons_zero, List.set_cons_succ]
   clear hs
   have k2 := ho2.kept HV.out.2.2 (by omega)
   have l2 := lt_of_block k2
   have HJ := h2_ ho2 hj
   clear ho2 hj
   go_wp2_with ((with_reducible refine ad_ ?_); refine sr_ rfl rfl (h := ?_); (try simp only [World.setRow_alloc_new]))
   refine bodyPost_ret (results_cell_row rfl _ _ w.heap.size _ _ _ _ rfl (setRow_heap _ _ _ _ _ _ k2) Tryz.underlying88 rfl (by kernel_rfl)) rfl ?_
   obtain ⟨ho2, hj⟩ := HJ.out
   have oS := (Only.refl (· = w.heap.size) w2).setRow w.heap.size #[.int .i64 v0, .string ⟨v1.toArray⟩, .string ⟨v2.toArray⟩, .string ⟨v3.toArray⟩, .int .i64 v4, .int .i64 v5, .int .i64 v6] (.inl rfl)
   refine ⟨rfl, ((Only.of_below HV.out.1).trans ho2).then oS (by intro b hb e; omega), ?_⟩
   have hj' : DR w2 qd q s7 := hj
   exact ⟨oS.kept hj'.head (by omega), oS.kept hj'.read (by omega), hj'.len⟩
theorem dmod (qd q : Nat) (s : RS) (w : World) (h : DR w qd q s) :
 Calls Tryz.prog 22 #[.pointer (some ⟨qd, 0, none⟩)] w fun e w' => e = .returned (.agg #[strB (modS s).1.1, strB (modS s).1.2.1, .int .i64 (modS s).1.2.2.1, .int .i64 (modS s).1.2.2.2.1, .bool (modS s).1.2.2.2.2]) ∧ Only (DS qd q) w w' ∧ DR w' qd q (modS s).2 := by
 obtain ⟨v0, s1, e0⟩ : ∃ v t, d8_ s = (v, t) := ⟨_, _, rfl⟩
 have E0 := h1_ e0
 obtain ⟨v1, s2, e1⟩ : ∃ v t, d8_ s1 = (v, t) := ⟨_, _, rfl⟩
 have E1 := h1_ e1
 obtain ⟨v2, s3, e2⟩ : ∃ v t, intS s2 = (v, t) := ⟨_, _, rfl⟩
 have E2 := h1_ e2
 obtain ⟨v3, s4, e3⟩ : ∃ v t, intS s3 = (v, t) := ⟨_, _, rfl⟩
 have E3 := h1_ e3
 obtain ⟨v4, s5, e4⟩ : ∃ v t, intS s4 = (v, t) := ⟨_, _, rfl⟩
 have E4 := h1_ e4
 have hfin : modS s = ((v0, v1, v2, v3, decide (v4 = 1)), ⟨s5.rest, s5.wb, s5.db || decide (v4 ≠ 0 ∧ v4 ≠ 1)⟩) := by
  unfold modS
  simp only [dn_, o2_, e0, e1, e2, e3, e4]
 rw [hfin]
 dsimp only
 unfold strB
 have hlq := h.lq
 have hlw := h.lqd
 have HH := h1_ h
 clear h hfin e0 e1 e2 e3 e4
 go_enter Tryz.func22, Tryz.ntmps22
 go_upto_region 1 with fail
 refine ac_ fun V hV => ?_
 have vB : Below w.heap.size w V := by rw [← hV]; go_grown
 have vD := HH.out.below vB
 have v2 : V.heap[w.heap.size]? = some (.cells #[.string ⟨#[]⟩, .string ⟨#[]⟩, .int .i64 0, .int .i64 0, .bool false] 84 (0, 0)) := by rw [← hV]; exact heap_alloc_new _ _
 have lV : w.heap.size ≤ V.heap.size := vB.size
 have HV := h3_ vB vD v2
 clear hV vB vD v2
 refine wq_ 22 [4, 9, 14, 19] ((· = q)) [.pt qd 0, .pt qd 0, .pt qd 0, .pt q 0, .val (.string ⟨v0.toArray⟩), .pt qd 0, .pt qd 0, .pt qd 0, .pt q 0, .val (.string ⟨v1.toArray⟩), .pt qd 0, .pt qd 0, .pt qd 0, .pt q 0, .val (.int .i64 v2), .pt qd 0, .pt qd 0, .pt qd 0, .pt q 0, .val (.int .i64 v3), .val (.agg #[.string ⟨v0.toArray⟩, .string ⟨v1.toArray⟩, .int .i64 v2, .int .i64 v3, .bool false]), .more (fun v x => ∃ b, v = .pointer (some ⟨b, 0, none⟩) ∧ V.heap.size ≤ b ∧ x.heap[b]? = some (.cells #[.string ⟨#[]⟩, .string ⟨#[]⟩, .int .i64 0, .int .i64 0, .bool false] 84 (0, 0))) (fun v x y ho h => by obtain ⟨b, h1, h2, h3⟩ := h; exact ⟨b, h1, h2, ho.kept h3 (by omega)⟩)] (fun k x => DR x qd q (stAt [s, s1, s2, s3, s4] k)) (by kernel_rfl) (by kernel_rfl) (HV.out.2.1.drew) ?_ ?_
 · simp only [a4_, List.take]
   refine ⟨?_, ?_, ?_, ?_, ?_, ?_, ?_, ?_, ?_, ?_, ?_, ?_, ?_, ?_, ?_, ?_, ?_, ?_, ?_, ?_, ?_, ?_, trivial⟩
   all_goals intro k a wr ho hJ hk hr hf hd
   · have h0 : zp_ a 0 qd 0 := (hf 0).trans rfl
     exact dp_ hJ (by simp [execOp, h0, go_sem])
   · have h5 : z_ a 5 _ := hd 0
     exact dp_ hJ (by simp [execOp, h5, go_sem])
   · have h6 : z_ a 6 _ := hd 1
     exact dp_ hJ (by simp [execOp, h6, go_sem])
   · have h7 : z_ a 7 _ := hd 2
     have hc := hJ.c0
     exact dp_ hJ (by simp [execOp, h7, hc, go_sem])
   · have h8 : z_ a 8 _ := hd 3
     obtain rfl := hk 0 (by decide) rfl
     exact a0_ (f := 49) (args := #[.pointer (some ⟨q, 0, none⟩)]) (by simp [execOp, h8, go_sem]) ((k6_ E0.out _ hJ).mono fun e w' ⟨he, ho, hw⟩ => ⟨_, he, rfl, ho, hw⟩)
   · have h0 : zp_ a 0 qd 0 := (hf 0).trans rfl
     exact dp_ hJ (by simp [execOp, h0, go_sem])
   · have h10 : z_ a 10 _ := hd 5
     exact dp_ hJ (by simp [execOp, h10, go_sem])
   · have h11 : z_ a 11 _ := hd 6
     exact dp_ hJ (by simp [execOp, h11, go_sem])
   · have h12 : z_ a 12 _ := hd 7
     have hc := hJ.c0
     exact dp_ hJ (by simp [execOp, h12, hc, go_sem])
   · have h13 : z_ a 13 _ := hd 8
     obtain rfl := hk 1 (by decide) rfl
     exact a0_ (f := 49) (args := #[.pointer (some ⟨q, 0, none⟩)]) (by simp [execOp, h13, go_sem]) ((k6_ E1.out _ hJ).mono fun e w' ⟨he, ho, hw⟩ => ⟨_, he, rfl, ho, hw⟩)
   · have h0 : zp_ a 0 qd 0 := (hf 0).trans rfl
     exact dp_ hJ (by simp [execOp, h0, go_sem])
   · have h15 : z_ a 15 _ := hd 10
     exact dp_ hJ (by simp [execOp, h15, go_sem])
   · have h16 : z_ a 16 _ := hd 11
     exact dp_ hJ (by simp [execOp, h16, go_sem])
   · have h17 : z_ a 17 _ := hd 12
     have hc := hJ.c0
     exact dp_ hJ (by simp [execOp, h17, hc, go_sem])
   · have h18 : z_ a 18 _ := hd 13
     obtain rfl := hk 2 (by decide) rfl
     exact a0_ (f := 50) (args := #[.pointer (some ⟨q, 0, none⟩)]) (by simp [execOp, h18, go_sem]) ((ko_ E2.out _ hJ).mono fun e w' ⟨he, ho, hw⟩ => ⟨_, he, rfl, ho, hw⟩)
   · have h0 : zp_ a 0 qd 0 := (hf 0).trans rfl
     exact dp_ hJ (by simp [execOp, h0, go_sem])
   · have h20 : z_ a 20 _ := hd 15
     exact dp_ hJ (by simp [execOp, h20, go_sem])
   · have h21 : z_ a 21 _ := hd 16
     exact dp_ hJ (by simp [execOp, h21, go_sem])
   · have h22 : z_ a 22 _ := hd 17
     have hc := hJ.c0
     exact dp_ hJ (by simp [execOp, h22, hc, go_sem])
   · have h23 : z_ a 23 _ := hd 18
     obtain rfl := hk 3 (by decide) rfl
     exact a0_ (f := 50) (args := #[.pointer (some ⟨q, 0, none⟩)]) (by simp [execOp, h23, go_sem]) ((ko_ E3.out _ hJ).mono fun e w' ⟨he, ho, hw⟩ => ⟨_, he, rfl, ho, hw⟩)
   · have h9 : z_ a 9 _ := hd 4
     have h14 : z_ a 14 _ := hd 9
     have h19 : z_ a 19 _ := hd 14
     have h24 : z_ a 24 _ := hd 19
     exact dp_ hJ (by simp [execOp, h9, h14, h19, h24, go_sem])
   · exact bc_ (v := .pointer (some ⟨wr.heap.size, 0, none⟩)) (w' := wr.alloc (.cells #[.string ⟨#[]⟩, .string ⟨#[]⟩, .int .i64 0, .int .i64 0, .bool false] 84)) (by simp [execOp, go_sem]) ⟨⟨_, rfl, ho.size, heap_alloc_new _ _⟩, (Only.refl _ _).alloc _, hJ.below ((Below.refl _ _).alloc (Nat.le_refl _) _)⟩
 · intro fv w2 ho2 hj hs
   have q3 := hs 21 (by decide)
   rw [seqv hs [5, 6, 7, 8, 9, 10, 11, 12, 13, 14, 15, 16, 17, 18, 19, 20, 21, 22, 23, 24, 25, 3] (by kernel_rfl)]
   simp only [actV, Act.put, List.drop, List.length, List.setIfInBounds_toArray, List.set_cons_zero, List.set_cons_succ]
   clear hs
   obtain ⟨b, g3, hb3, k3⟩ : ∃ b, fv 3 = .pointer (some ⟨b, 0, none⟩) ∧ V.heap.size ≤ b ∧ w2.heap[b]? = some (.cells #[.string ⟨#[]⟩, .string ⟨#[]⟩, .int .i64 0, .int .i64 0, .bool false] 84 (0, 0)) := q3
   simp only [g3]
   clear g3
   have k2 := ho2.kept HV.out.2.2 (by omega)
   have l2 := lt_of_block k2
   have l3 := lt_of_block k3
   have lV2 := lt_of_block HV.out.2.2
   have hj' : DR w2 qd q s4 := hj
   have HJ := h4_ ho2 hj' k2 k3
   clear ho2 hj hj' k2
   go_upto_region 2 with ((with_reducible refine ad_ ?_); refine sr_ rfl rfl (h := ?_); (try simp only [World.setRow_alloc_new]))
   refine ac_ fun X hX => ?_
   obtain ⟨ho2, hj, k2, _⟩ := HJ.out
   have oX := (Only.refl (· = b) w2).setRow b #[.string ⟨v0.toArray⟩, .string ⟨v1.toArray⟩, .int .i64 v2, .int .i64 v3, .bool false] (.inl rfl)
   have xb := setRow_heap w2 b _ #[.string ⟨v0.toArray⟩, .string ⟨v1.toArray⟩, .int .i64 v2, .int .i64 v3, .bool false] _ _ k3
   have xj : DR (w2.setRow b #[.string ⟨v0.toArray⟩, .string ⟨v1.toArray⟩, .int .i64 v2, .int .i64 v3, .bool false]) qd q s4 := ⟨oX.kept hj.head (by omega), oX.kept hj.read (by omega), hj.len⟩
   have xk := oX.kept k2 (show ¬ w.heap.size = b by omega)
   rw [hX] at oX xb xj xk
   have x0 := xj.c0
   have xo := (((Only.of_below HV.out.1).trans ho2).mono (T := fun k => k = q ∨ w.heap.size ≤ k) (fun _ _ h => .inl h)).then oX (fun k hk e => .inr (by omega))
   have HX := h4_ xb xj xk xo
   clear ho2 hj k2 oX xb xj xk xo hX HJ k3
   go_wp2_with fail
   go_at_call 50
   refine (ko_ E4.out _ HX.out.2.1).mono ?_
   rintro e w3 ⟨rfl, ho3, hj3⟩
   have y1 := hj3.c1
   have yf := hj3.f1
   have H3 := h2_ ho3 hj3
   clear ho3 hj3 x0
   have lX3 := H3.out.1.size
   have nbq : b ≠ q := by omega
   have nbd : b ≠ qd := by omega
   have nwq : w.heap.size ≠ q := by omega
   have nwd : w.heap.size ≠ qd := by omega
   have nwb : w.heap.size ≠ b := by omega
   have nqd : q ≠ qd := Ne.symm H3.out.2.ne
   obtain ⟨xb, xj, xk, xo⟩ := HX.out
   obtain ⟨ho3, hj3⟩ := H3.out
   have b3 := ho3.kept xb nbq
   have y4 := al_ b3 4 rfl
   have yf4 := ag_ b3 4
   have o3 := (xo.mono (T := fun k => k = q ∨ k = qd ∨ k = b) (fun k hk h => by rcases h with h | h; exact .inl h; exact absurd hk (by omega))).then ho3 (fun _ _ h => .inl h)
   have H4 := h6_ b3 (ho3.kept xk nwq) hj3.read hj3.head o3 hj3.len
   clear xb xj xk xo ho3 hj3 b3 o3 HX H3
   obtain ⟨bd, hbd⟩ : ∃ x, s5.db = x := ⟨_, rfl⟩
   rw [hbd] at y1
   have HB := h1_ hbd
   clear hbd
   by_cases h1 : v4 = 1
   · subst h1
     cases bd
     · skip
       go_upto_region 5 with fail
       refine ac_ fun Z hZ => ?_
       obtain ⟨b3, k3, q3, d3, o3, l3⟩ := H4.out
       have o1 : Only (· = qd) w3 (w3.setCell ⟨qd, 1, none⟩ (.bool false)) := (Only.refl _ w3).setCell _ _ (.inl rfl)
       have o2 : Only (· = b) (w3.setCell ⟨qd, 1, none⟩ (.bool false)) ((w3.setCell ⟨qd, 1, none⟩ (.bool false)).setCell ⟨b, 4, none⟩ (.bool true)) := (Only.refl _ _).setCell _ _ (.inl rfl)
       have zb : ((w3.setCell ⟨qd, 1, none⟩ (.bool false)).setCell ⟨b, 4, none⟩ (.bool true)).heap[b]? = some (.cells #[.string ⟨v0.toArray⟩, .string ⟨v1.toArray⟩, .int .i64 v2, .int .i64 v3, .bool true] 84 (0, 0)) := aj_ (o1.kept b3 nbd) 4 (.bool true)
       have zk := o2.kept (o1.kept k3 nwd) nwb
       have zq := o2.kept (o1.kept q3 nqd) (Ne.symm nbq)
       have zd : ((w3.setCell ⟨qd, 1, none⟩ (.bool false)).setCell ⟨b, 4, none⟩ (.bool true)).heap[qd]? = some (.cells [.pointer (some ⟨q, 0, none⟩), .bool false].toArray 95 (0, 0)) := o2.kept (aj_ d3 1 (.bool false)) (Ne.symm nbd)
       rw [hZ] at o2 zb zk zq zd
       have zo := o3.then ((o1.mono (T := fun k => k = q ∨ k = qd ∨ k = b) (fun _ _ h => .inr (.inl h))).then o2 (fun _ _ h => .inr (.inr h))) (fun _ _ h => h)
       have HZ := h5_ zk zq zd zo l3
       clear b3 k3 q3 d3 o3 l3 o1 o2 zq zd zo hZ H4
       go_wp2_with (first
        | (refine wpList_load_row rfl 84 (.tmp 3) rfl b rfl 84 #[.string ⟨v0.toArray⟩, .string ⟨v1.toArray⟩, .int .i64 v2, .int .i64 v3, .bool true] (0, 0) _ zb Tryz.underlying84 rfl (by kernel_rfl) ?_)
        | ((with_reducible refine ad_ ?_); refine sr_ rfl rfl (h := ?_); (try simp only [World.setRow_alloc_new])))
       refine bodyPost_ret (results_cell_row rfl _ _ w.heap.size _ _ _ _ rfl (setRow_heap _ _ _ _ _ _ zk) Tryz.underlying84 rfl (by kernel_rfl)) rfl ?_
       obtain ⟨zk, zq, zd, zo, l3⟩ := HZ.out
       have oS := (Only.refl (· = w.heap.size) Z).setRow w.heap.size #[.string ⟨v0.toArray⟩, .string ⟨v1.toArray⟩, .int .i64 v2, .int .i64 v3, .bool true] (.inl rfl)
       have hbd := HB.out
       refine ⟨by first | rfl | (rw [decide_eq_false h1]) | simp [h1], (zo.then oS (T := (· = w.heap.size)) (S := fun k => k = q ∨ k = qd ∨ k = b) (fun k hk h => by omega)).mono (fun k hk h => by rcases h with h | h | h; exact .inl h; exact .inr h; exact absurd h (by omega)), ?_⟩
       exact ⟨(oS.kept zd (by omega)).trans (congrArg (fun x => some (Obj.cells #[Value.pointer (some ⟨q, 0, none⟩), Value.bool x] 95 (0, 0))) (by simp [hbd])), oS.kept zq (by omega), l3⟩
     · skip
       go_upto_region 5 with fail
       refine ac_ fun Z hZ => ?_
       obtain ⟨b3, k3, q3, d3, o3, l3⟩ := H4.out
       have o1 : Only (· = qd) w3 (w3.setCell ⟨qd, 1, none⟩ (.bool true)) := (Only.refl _ w3).setCell _ _ (.inl rfl)
       have o2 : Only (· = b) (w3.setCell ⟨qd, 1, none⟩ (.bool true)) ((w3.setCell ⟨qd, 1, none⟩ (.bool true)).setCell ⟨b, 4, none⟩ (.bool true)) := (Only.refl _ _).setCell _ _ (.inl rfl)
       have zb : ((w3.setCell ⟨qd, 1, none⟩ (.bool true)).setCell ⟨b, 4, none⟩ (.bool true)).heap[b]? = some (.cells #[.string ⟨v0.toArray⟩, .string ⟨v1.toArray⟩, .int .i64 v2, .int .i64 v3, .bool true] 84 (0, 0)) := aj_ (o1.kept b3 nbd) 4 (.bool true)
       have zk := o2.kept (o1.kept k3 nwd) nwb
       have zq := o2.kept (o1.kept q3 nqd) (Ne.symm nbq)
       have zd : ((w3.setCell ⟨qd, 1, none⟩ (.bool true)).setCell ⟨b, 4, none⟩ (.bool true)).heap[qd]? = some (.cells [.pointer (some ⟨q, 0, none⟩), .bool true].toArray 95 (0, 0)) := o2.kept (aj_ d3 1 (.bool true)) (Ne.symm nbd)
       rw [hZ] at o2 zb zk zq zd
       have zo := o3.then ((o1.mono (T := fun k => k = q ∨ k = qd ∨ k = b) (fun _ _ h => .inr (.inl h))).then o2 (fun _ _ h => .inr (.inr h))) (fun _ _ h => h)
       have HZ := h5_ zk zq zd zo l3
       clear b3 k3 q3 d3 o3 l3 o1 o2 zq zd zo hZ H4
       go_wp2_with (first
        | (refine wpList_load_row rfl 84 (.tmp 3) rfl b rfl 84 #[.string ⟨v0.toArray⟩, .string ⟨v1.toArray⟩, .int .i64 v2, .int .i64 v3, .bool true] (0, 0) _ zb Tryz.underlying84 rfl (by kernel_rfl) ?_)
        | ((with_reducible refine ad_ ?_); refine sr_ rfl rfl (h := ?_); (try simp only [World.setRow_alloc_new])))
       refine bodyPost_ret (results_cell_row rfl _ _ w.heap.size _ _ _ _ rfl (setRow_heap _ _ _ _ _ _ zk) Tryz.underlying84 rfl (by kernel_rfl)) rfl ?_
       obtain ⟨zk, zq, zd, zo, l3⟩ := HZ.out
       have oS := (Only.refl (· = w.heap.size) Z).setRow w.heap.size #[.string ⟨v0.toArray⟩, .string ⟨v1.toArray⟩, .int .i64 v2, .int .i64 v3, .bool true] (.inl rfl)
       have hbd := HB.out
       refine ⟨by first | rfl | (rw [decide_eq_false h1]) | simp [h1], (zo.then oS (T := (· = w.heap.size)) (S := fun k => k = q ∨ k = qd ∨ k = b) (fun k hk h => by omega)).mono (fun k hk h => by rcases h with h | h | h; exact .inl h; exact .inr h; exact absurd h (by omega)), ?_⟩
       exact ⟨(oS.kept zd (by omega)).trans (congrArg (fun x => some (Obj.cells #[Value.pointer (some ⟨q, 0, none⟩), Value.bool x] 95 (0, 0))) (by simp [hbd])), oS.kept zq (by omega), l3⟩
   · have e11 : (v4 != 1) = true := by simp [h1]
     have e12 : (v4 == 1) = false := by simp [h1]
     cases bd
     · by_cases h0 : v4 = 0
       · subst h0
         go_upto_region 5 with fail
         refine ac_ fun Z hZ => ?_
         obtain ⟨b3, k3, q3, d3, o3, l3⟩ := H4.out
         have o1 : Only (· = qd) w3 (w3.setCell ⟨qd, 1, none⟩ (.bool false)) := (Only.refl _ w3).setCell _ _ (.inl rfl)
         have o2 : Only (· = b) (w3.setCell ⟨qd, 1, none⟩ (.bool false)) ((w3.setCell ⟨qd, 1, none⟩ (.bool false)).setCell ⟨b, 4, none⟩ (.bool false)) := (Only.refl _ _).setCell _ _ (.inl rfl)
         have zb : ((w3.setCell ⟨qd, 1, none⟩ (.bool false)).setCell ⟨b, 4, none⟩ (.bool false)).heap[b]? = some (.cells #[.string ⟨v0.toArray⟩, .string ⟨v1.toArray⟩, .int .i64 v2, .int .i64 v3, .bool false] 84 (0, 0)) := aj_ (o1.kept b3 nbd) 4 (.bool false)
         have zk := o2.kept (o1.kept k3 nwd) nwb
         have zq := o2.kept (o1.kept q3 nqd) (Ne.symm nbq)
         have zd : ((w3.setCell ⟨qd, 1, none⟩ (.bool false)).setCell ⟨b, 4, none⟩ (.bool false)).heap[qd]? = some (.cells [.pointer (some ⟨q, 0, none⟩), .bool false].toArray 95 (0, 0)) := o2.kept (aj_ d3 1 (.bool false)) (Ne.symm nbd)
         rw [hZ] at o2 zb zk zq zd
         have zo := o3.then ((o1.mono (T := fun k => k = q ∨ k = qd ∨ k = b) (fun _ _ h => .inr (.inl h))).then o2 (fun _ _ h => .inr (.inr h))) (fun _ _ h => h)
         have HZ := h5_ zk zq zd zo l3
         clear b3 k3 q3 d3 o3 l3 o1 o2 zq zd zo hZ H4
         go_wp2_with (first
          | (refine wpList_load_row rfl 84 (.tmp 3) rfl b rfl 84 #[.string ⟨v0.toArray⟩, .string ⟨v1.toArray⟩, .int .i64 v2, .int .i64 v3, .bool false] (0, 0) _ zb Tryz.underlying84 rfl (by kernel_rfl) ?_)
          | ((with_reducible refine ad_ ?_); refine sr_ rfl rfl (h := ?_); (try simp only [World.setRow_alloc_new])))
         refine bodyPost_ret (results_cell_row rfl _ _ w.heap.size _ _ _ _ rfl (setRow_heap _ _ _ _ _ _ zk) Tryz.underlying84 rfl (by kernel_rfl)) rfl ?_
         obtain ⟨zk, zq, zd, zo, l3⟩ := HZ.out
         have oS := (Only.refl (· = w.heap.size) Z).setRow w.heap.size #[.string ⟨v0.toArray⟩, .string ⟨v1.toArray⟩, .int .i64 v2, .int .i64 v3, .bool false] (.inl rfl)
         have hbd := HB.out
         refine ⟨by first | rfl | (rw [decide_eq_false h1]) | simp [h1], (zo.then oS (T := (· = w.heap.size)) (S := fun k => k = q ∨ k = qd ∨ k = b) (fun k hk h => by omega)).mono (fun k hk h => by rcases h with h | h | h; exact .inl h; exact .inr h; exact absurd h (by omega)), ?_⟩
         exact ⟨(oS.kept zd (by omega)).trans (congrArg (fun x => some (Obj.cells #[Value.pointer (some ⟨q, 0, none⟩), Value.bool x] 95 (0, 0))) (by simp [hbd])), oS.kept zq (by omega), l3⟩
       · have e01 : (v4 != 0) = true := by simp [h0]
         go_upto_region 5 with fail
         refine ac_ fun Z hZ => ?_
         obtain ⟨b3, k3, q3, d3, o3, l3⟩ := H4.out
         have o1 : Only (· = qd) w3 (w3.setCell ⟨qd, 1, none⟩ (.bool true)) := (Only.refl _ w3).setCell _ _ (.inl rfl)
         have o2 : Only (· = b) (w3.setCell ⟨qd, 1, none⟩ (.bool true)) ((w3.setCell ⟨qd, 1, none⟩ (.bool true)).setCell ⟨b, 4, none⟩ (.bool false)) := (Only.refl _ _).setCell _ _ (.inl rfl)
         have zb : ((w3.setCell ⟨qd, 1, none⟩ (.bool true)).setCell ⟨b, 4, none⟩ (.bool false)).heap[b]? = some (.cells #[.string ⟨v0.toArray⟩, .string ⟨v1.toArray⟩, .int .i64 v2, .int .i64 v3, .bool false] 84 (0, 0)) := aj_ (o1.kept b3 nbd) 4 (.bool false)
         have zk := o2.kept (o1.kept k3 nwd) nwb
         have zq := o2.kept (o1.kept q3 nqd) (Ne.symm nbq)
         have zd : ((w3.setCell ⟨qd, 1, none⟩ (.bool true)).setCell ⟨b, 4, none⟩ (.bool false)).heap[qd]? = some (.cells [.pointer (some ⟨q, 0, none⟩), .bool true].toArray 95 (0, 0)) := o2.kept (aj_ d3 1 (.bool true)) (Ne.symm nbd)
         rw [hZ] at o2 zb zk zq zd
         have zo := o3.then ((o1.mono (T := fun k => k = q ∨ k = qd ∨ k = b) (fun _ _ h => .inr (.inl h))).then o2 (fun _ _ h => .inr (.inr h))) (fun _ _ h => h)
         have HZ := h5_ zk zq zd zo l3
         clear b3 k3 q3 d3 o3 l3 o1 o2 zq zd zo hZ H4
         go_wp2_with (first
          | (refine wpList_load_row rfl 84 (.tmp 3) rfl b rfl 84 #[.string ⟨v0.toArray⟩, .string ⟨v1.toArray⟩, .int .i64 v2, .int .i64 v3, .bool false] (0, 0) _ zb Tryz.underlying84 rfl (by kernel_rfl) ?_)
          | ((with_reducible refine ad_ ?_); refine sr_ rfl rfl (h := ?_); (try simp only [World.setRow_alloc_new])))
         refine bodyPost_ret (results_cell_row rfl _ _ w.heap.size _ _ _ _ rfl (setRow_heap _ _ _ _ _ _ zk) Tryz.underlying84 rfl (by kernel_rfl)) rfl ?_
         obtain ⟨zk, zq, zd, zo, l3⟩ := HZ.out
         have oS := (Only.refl (· = w.heap.size) Z).setRow w.heap.size #[.string ⟨v0.toArray⟩, .string ⟨v1.toArray⟩, .int .i64 v2, .int .i64 v3, .bool false] (.inl rfl)
         have hbd := HB.out
         refine ⟨by first | rfl | (rw [decide_eq_false h1]) | simp [h1], (zo.then oS (T := (· = w.heap.size)) (S := fun k => k = q ∨ k = qd ∨ k = b) (fun k hk h => by omega)).mono (fun k hk h => by rcases h with h | h | h; exact .inl h; exact .inr h; exact absurd h (by omega)), ?_⟩
         exact ⟨(oS.kept zd (by omega)).trans (congrArg (fun x => some (Obj.cells #[Value.pointer (some ⟨q, 0, none⟩), Value.bool x] 95 (0, 0))) (by simp [h0, h1])), oS.kept zq (by omega), l3⟩
     · skip
       go_upto_region 5 with fail
       refine ac_ fun Z hZ => ?_
       obtain ⟨b3, k3, q3, d3, o3, l3⟩ := H4.out
       have o1 : Only (· = qd) w3 (w3.setCell ⟨qd, 1, none⟩ (.bool true)) := (Only.refl _ w3).setCell _ _ (.inl rfl)
       have o2 : Only (· = b) (w3.setCell ⟨qd, 1, none⟩ (.bool true)) ((w3.setCell ⟨qd, 1, none⟩ (.bool true)).setCell ⟨b, 4, none⟩ (.bool false)) := (Only.refl _ _).setCell _ _ (.inl rfl)
       have zb : ((w3.setCell ⟨qd, 1, none⟩ (.bool true)).setCell ⟨b, 4, none⟩ (.bool false)).heap[b]? = some (.cells #[.string ⟨v0.toArray⟩, .string ⟨v1.toArray⟩, .int .i64 v2, .int .i64 v3, .bool false] 84 (0, 0)) := aj_ (o1.kept b3 nbd) 4 (.bool false)
       have zk := o2.kept (o1.kept k3 nwd) nwb
       have zq := o2.kept (o1.kept q3 nqd) (Ne.symm nbq)
       have zd : ((w3.setCell ⟨qd, 1, none⟩ (.bool true)).setCell ⟨b, 4, none⟩ (.bool false)).heap[qd]? = some (.cells [.pointer (some ⟨q, 0, none⟩), .bool true].toArray 95 (0, 0)) := o2.kept (aj_ d3 1 (.bool true)) (Ne.symm nbd)
       rw [hZ] at o2 zb zk zq zd
       have zo := o3.then ((o1.mono (T := fun k => k = q ∨ k = qd ∨ k = b) (fun _ _ h => .inr (.inl h))).then o2 (fun _ _ h => .inr (.inr h))) (fun _ _ h => h)
       have HZ := h5_ zk zq zd zo l3
       clear b3 k3 q3 d3 o3 l3 o1 o2 zq zd zo hZ H4
       go_wp2_with (first
        | (refine wpList_load_row rfl 84 (.tmp 3) rfl b rfl 84 #[.string ⟨v0.toArray⟩, .string ⟨v1.toArray⟩, .int .i64 v2, .int .i64 v3, .bool false] (0, 0) _ zb Tryz.underlying84 rfl (by kernel_rfl) ?_)
        | ((with_reducible refine ad_ ?_); refine sr_ rfl rfl (h := ?_); (try simp only [World.setRow_alloc_new])))
       refine bodyPost_ret (results_cell_row rfl _ _ w.heap.size _ _ _ _ rfl (setRow_heap _ _ _ _ _ _ zk) Tryz.underlying84 rfl (by kernel_rfl)) rfl ?_
       obtain ⟨zk, zq, zd, zo, l3⟩ := HZ.out
       have oS := (Only.refl (· = w.heap.size) Z).setRow w.heap.size #[.string ⟨v0.toArray⟩, .string ⟨v1.toArray⟩, .int .i64 v2, .int .i64 v3, .bool false] (.inl rfl)
       have hbd := HB.out
       refine ⟨by first | rfl | (rw [decide_eq_false h1]) | simp [h1], (zo.then oS (T := (· = w.heap.size)) (S := fun k => k = q ∨ k = qd ∨ k = b) (fun k hk h => by omega)).mono (fun k hk h => by rcases h with h | h | h; exact .inl h; exact .inr h; exact absurd h (by omega)), ?_⟩
       exact ⟨(oS.kept zd (by omega)).trans (congrArg (fun x => some (Obj.cells #[Value.pointer (some ⟨q, 0, none⟩), Value.bool x] 95 (0, 0))) (by simp [hbd])), oS.kept zq (by omega), l3⟩
end
section
open Go.RowKit Wire
attribute [local go_sem] ak_ af_
theorem iz_ {α : Type} (one : RS → α × RS) : ∀ (k : Nat) (s : RS), repS one (k + 1) s = ((repS one k s).1 ++ [(one (repS one k s).2).1], (one (repS one k s).2).2)
 | 0, s => rfl
 | k + 1, s => by
  show ((one s).1 :: (repS one (k + 1) (one s).2).1, (repS one (k + 1) (one s).2).2) = _
  rw [iz_ one k (one s).2]
  rfl
theorem ie_ {α : Type} (one : RS → α × RS) : ∀ (k : Nat) (s : RS), (repS one k s).1.length = k
 | 0, s => rfl
 | k + 1, s => by
  show ((one s).1 :: (repS one k (one s).2).1).length = _
  rw [List.length_cons, ie_ one k]
theorem qq_ {α : Type} (one : RS → α × RS) (s : RS) : repS one 0 s = ([], s) := rfl
theorem xc_ (s : RS) : (cpuS s).1 = (repS intS 16 s).1 ++ [(intS (repS intS 16 s).2).1] := by unfold cpuS; rw [iz_]
theorem xd_ (s : RS) : (cpuS s).2 = (intS (repS intS 16 s).2).2 := by unfold cpuS; rw [iz_]
theorem ho_ (s : RS) : (cpuS s).1.length = 17 := by unfold cpuS; rw [ie_]
theorem DR.other {w w' : World} {qd q b : Nat} {s : RS} (h : DR w qd q s) (ho : Only (· = b) w w') (h1 : b ≠ q) (h2 : b ≠ qd) : DR w' qd q s := ⟨ho.kept h.head (Ne.symm h2), ho.kept h.read (Ne.symm h1), h.len⟩
attribute [local irreducible] repS cpuS
def cpuK (vs : List Int) (k : Nat) : List Value := vs.map (Value.int .i64) ++ List.replicate (17 - k) (.int .i64 0)
theorem qr_ (vs : List Int) (k : Nat) (hk : k < 17) (hl : vs.length = k) (v : Int) : (cpuK vs k).set k (.int .i64 v) = cpuK (vs ++ [v]) (k + 1) := by
 unfold cpuK
 rw [List.set_append_right _ _ (by simp; omega), List.length_map, hl, Nat.sub_self, show 17 - k = (17 - (k + 1)) + 1 by omega, List.replicate_succ, List.set_cons_zero, List.map_append, List.append_assoc]
 rfl
theorem qs_ (vs : List Int) (k : Nat) (hk : k ≤ 17) (hl : vs.length = k) : (cpuK vs k).length = 17 := by
 unfold cpuK
 rw [List.length_append, List.length_map, List.length_replicate]; omega
theorem dcpu (qd q : Nat) (s : RS) (w : World) (h : DR w qd q s) :
 Calls Tryz.prog 52 #[.pointer (some ⟨qd, 0, none⟩)] w fun e w' => e = .returned (.agg ((cpuS s).1.map (Value.int .i64)).toArray) ∧ Only (· = q) w w' ∧ DR w' qd q (cpuS s).2 := by
 have hlq := h.lq
 have hlw := h.lqd
 have HH := h1_ h
 clear h
 go_enter Tryz.func52, Tryz.ntmps52
 go_upto_region 2 with fail
 refine ac_ fun V hV => ?_
 have vB : Below w.heap.size w V := by rw [← hV]; go_grown
 have vD := HH.out.below vB
 have v2 : V.heap[w.heap.size]? = some (.cells (List.replicate 17 (.int .i64 0)).toArray 70 (0, 0)) := by rw [← hV]; exact ae_ (heap_alloc_new _ _)
 have v3 : V.heap[w.heap.size + 1]? = some (.cells (cpuK [] 0).toArray 70 (0, 0)) := by rw [← hV]; exact block_at (by simp)
 have lV : V.heap.size = w.heap.size + 2 := by rw [← hV]; simp
 have HV := h4_ vB vD v2 v3
 clear hV vB vD v2 v3
 go_wp2_with fail
 go_loopw [5] (fun i wr => ∃ k : Nat, i = .int .i64 k ∧ k ≤ 16 ∧ DR wr qd q (repS intS k s).2 ∧ wr.heap[w.heap.size]? = some (.cells (List.replicate 17 (.int .i64 0)).toArray 70 (0, 0)) ∧ wr.heap[w.heap.size + 1]? = some (.cells (cpuK (repS intS k s).1 k).toArray 70 (0, 0)) ∧ Only (· = q) w wr ∧ w.heap.size + 2 ≤ wr.heap.size) (fun i _ => 16 - (RowKit.intOf i).toNat)
 case atStart => exact ⟨0, rfl, by omega, by rw [qq_]; exact HV.out.2.1, HV.out.2.2.1, by rw [qq_]; exact HV.out.2.2.2, Only.of_below HV.out.1, by omega⟩
 case round =>
  obtain ⟨k, rfl, hk, hd, k2, k3, ho, hsz⟩ := hrel
  have x0 := hd.c0
  have hlen := ie_ intS k s
  have HD := h5_ hd k2 k3 ho hlen
  have n1 : w.heap.size + 1 ≠ q := by omega
  have n2 : w.heap.size ≠ q := by omega
  clear hd k2 k3 ho hlen
  by_cases hlt : k < 16
  · have hlt' : (k : Int) < 16 := by omega
    go_wp2_with fail
    go_at_call 50
    refine (dint qd q (repS intS k s).2 _ HD.out.1).mono ?_
    rintro e w1 ⟨rfl, ho1, hd1⟩
    obtain ⟨v, hv⟩ : ∃ v, v = (intS (repS intS k s).2).1 := ⟨_, rfl⟩
    rw [← hv]
    have k3 := ho1.kept HD.out.2.2.1 n1
    have hkl := qs_ (repS intS k s).1 k (by omega) HD.out.2.2.2.2
    obtain ⟨u, y3⟩ : ∃ u, w1.cell? ⟨w.heap.size + 1, k, none⟩ = some u := ⟨_, ab_ k3 k (List.getElem?_eq_getElem (by omega))⟩
    have yf := ag_ k3 k
    have H1 := h4_ ho1 hd1 k3 hv
    have lw1 := ho1.size
    clear ho1 hd1 k3 hv hkl x0
    go_wp2_with fail
    go_roundw
    case rel =>
     obtain ⟨ho1, hd1, k3, hv⟩ := H1.out
     obtain ⟨hd, k2, k3', ho, hlen⟩ := HD.out
     have o1 : Only (· = w.heap.size + 1) w1 (w1.setCell ⟨w.heap.size + 1, k, none⟩ (.int .i64 v)) := (Only.refl _ w1).setCell _ _ (.inl rfl)
     have hs := iz_ intS k s
     have k3n := aj_ k3 k (.int .i64 v)
     rw [qr_ _ k (by omega) hlen v] at k3n
     refine ⟨k + 1, rfl, by omega, ?_, ?_, ?_, ?_, ?_⟩
     · rw [hs]
       exact hd1.other o1 (by omega) (by omega)
     · exact o1.kept (ho1.kept k2 n2) (by omega)
     · rw [hs, ← hv]
       exact k3n
     · exact (ho.trans ho1).then o1 (fun b hb e => by omega)
     · have := o1.size; omega
    case measure => simp [RowKit.intOf]; omega
  · obtain rfl : k = 16 := by omega
    go_wp2_with fail
    go_at_call 50
    refine (dint qd q (repS intS 16 s).2 _ HD.out.1).mono ?_
    rintro e w1 ⟨rfl, ho1, hd1⟩
    obtain ⟨v, hv⟩ : ∃ v, v = (intS (repS intS 16 s).2).1 := ⟨_, rfl⟩
    rw [← hv]
    have k3 := ho1.kept HD.out.2.2.1 n1
    have hkl := qs_ (repS intS 16 s).1 16 (by omega) HD.out.2.2.2.2
    obtain ⟨u, y3⟩ : ∃ u, w1.cell? ⟨w.heap.size + 1, 16, none⟩ = some u := ⟨_, ab_ k3 16 (List.getElem?_eq_getElem (by omega))⟩
    have yf := ag_ k3 16
    have H1 := h4_ ho1 hd1 k3 hv
    have lw1 := ho1.size
    clear ho1 hd1 k3 hv hkl x0
    go_upto_region 8 with fail
    refine ac_ fun Z hZ => ?_
    obtain ⟨ho1, hd1, k3, hv⟩ := H1.out
    obtain ⟨hd, k2, k3', ho, hlen⟩ := HD.out
    have o1 : Only (· = w.heap.size + 1) w1 (w1.setCell ⟨w.heap.size + 1, 16, none⟩ (.int .i64 v)) := (Only.refl _ w1).setCell _ _ (.inl rfl)
    have zc : cpuK ((repS intS 16 s).1 ++ [v]) 17 = (cpuS s).1.map (Value.int .i64) := by
     rw [xc_, ← hv]
     unfold cpuK
     rw [Nat.sub_self, List.replicate_zero, List.append_nil]
    have zb := aj_ k3 16 (.int .i64 v)
    rw [qr_ _ 16 (by omega) hlen v, zc] at zb
    have zd : DR (w1.setCell ⟨w.heap.size + 1, 16, none⟩ (.int .i64 v)) qd q (cpuS s).2 := by
     rw [xd_]
     exact hd1.other o1 (by omega) (by omega)
    have zk := o1.kept (ho1.kept k2 n2) (show ¬ w.heap.size = w.heap.size + 1 by omega)
    have zo := (ho.trans ho1).then o1 (fun b hb e => by omega)
    have hl17 : ((cpuS s).1.map (Value.int .i64)).length = 17 := by rw [List.length_map, ho_]
    have h1 : ∀ u ∈ (cpuS s).1.map (Value.int .i64), u.oneCell' = true := by
     intro u hu
     obtain ⟨x, _, rfl⟩ := List.mem_map.1 hu
     rfl
    obtain ⟨L, hL⟩ : ∃ L, L = (cpuS s).1.map (Value.int .i64) := ⟨_, rfl⟩
    rw [hZ] at zb zd zk zo
    rw [← hL] at zb hl17 h1
    have hsz : (Tryz.prog.info? 70).map (·.size) = some L.toArray.size := by rw [List.size_toArray, hl17]; kernel_rfl
    have hall : L.toArray.all (·.oneCell') = true := by rw [Array.all_eq_true_iff_forall_mem]; intro u hu; exact h1 u (by simpa using hu)
    have hrs : (List.replicate 17 (Value.int .i64 0)).toArray.size = L.toArray.size := by simp [hl17]
    have HZ := h6_ zd zo hsz hall hrs hL
    have HC := h2_ zb zk
    clear ho1 hd1 k3 hv hd k2 k3' ho hlen o1 zc zb zd zk zo hl17 h1 hsz hall hrs hZ hL H1 HD y3 yf
    go_wp2_with (first
     | (refine wpList_load_row rfl 70 (.tmp 3) rfl (w.heap.size + 1) rfl 70 L.toArray (0, 0) _ HC.out.1 Tryz.underlying70 rfl HZ.out.2.2.1 ?_)
     | ((with_reducible refine ad_ ?_); refine wpList_store_row rfl _ _ _ rfl _ _ rfl rfl _ _ HC.out.2 HZ.out.2.2.1 HZ.out.2.2.2.2.1 HZ.out.2.2.2.1 ?_))
    refine bodyPost_ret (results_cell_row rfl _ _ w.heap.size _ _ _ _ rfl (setRow_heap _ _ _ _ _ _ HC.out.2) Tryz.underlying70 rfl HZ.out.2.2.1) rfl ?_
    obtain ⟨zd, zo, _, _, _, hL⟩ := HZ.out
    have oS := (Only.refl (· = w.heap.size) Z).setRow w.heap.size L.toArray (.inl rfl)
    exact ⟨by rw [hL], zo.then oS (fun b hb e => by omega), zd.other oS n2 (by omega)⟩
end
section
open Go.RowKit Wire
def do_ (c : CpuD) : List Value := c.map (Value.int .i64)
def fb_ (m : ModD) : List Value := [strB m.1, strB m.2.1, .int .i64 m.2.2.1, .int .i64 m.2.2.2.1, .bool m.2.2.2.2]
def lz_ (x : StrD) : List Value := [.int .i64 x.1, strB x.2.1, strB x.2.2.1, strB x.2.2.2.1, .int .i64 x.2.2.2.2.1, .int .i64 x.2.2.2.2.2.1, .int .i64 x.2.2.2.2.2.2]
def fc_ (c : ChkD) : List Value := [.int .i64 c.1, strB c.2]
def Eats {α : Type} (one : RS → α × RS) : Prop := ∀ s, (one s).2.rest.length ≤ s.rest.length ∧ (s.rest ≠ [] → (one s).2.rest.length < s.rest.length)
theorem j2_ (s : RS) (h : s.rest ≠ []) : (br_ s).2.rest.length < s.rest.length := by
 unfold br_
 split
 · rename_i m r h
   obtain ⟨q, _, e, _⟩ := gn_ _ _ _ _ _ h
   rw [e, List.length_append]
   have : 0 < (numL q).length := List.length_pos_iff.2 (jp_ q)
   show r.length < _
   omega
 · show 0 < _
   exact List.length_pos_iff.2 h
theorem xe_ (s : RS) (h : s.rest ≠ []) : (numS s).2.rest.length < s.rest.length := by
 unfold numS
 split
 · show 0 < _
   exact List.length_pos_iff.2 h
 · exact j2_ s h
theorem b8_ : Eats intS := fun s => ⟨id_ s, j2_ s⟩
theorem f8_ : Eats d8_ := fun s => ⟨qp_ s, fun h => by
 have := xe_ s h
 unfold d8_
 split
 · show 0 < _
   exact List.length_pos_iff.2 h
 · show ((numS s).2.rest.drop _).length < _
   rw [List.length_drop]; omega⟩
theorem d0_ {α β : Type} {a : RS → α × RS} {b : RS → β × RS} (ha : Eats a) (hb : Eats b) : Eats (dn_ a b) := fun s => by
 have h1 := ha s
 have h2 := hb (a s).2
 exact ⟨Nat.le_trans h2.1 h1.1, fun h => Nat.lt_of_le_of_lt h2.1 (h1.2 h)⟩
theorem uv_ : Eats o2_ := fun s => ⟨(b8_ s).1, (b8_ s).2⟩
theorem uw_ {α : Type} {one : RS → α × RS} (h : Eats one) : ∀ (k : Nat) (s : RS), (repS one k s).2.rest.length ≤ s.rest.length
 | 0, s => Nat.le_refl _
 | k + 1, s => Nat.le_trans (uw_ h k (one s).2) (h s).1
theorem ux_ (s : RS) : (cpuS s).2 = (repS intS 16 (intS s).2).2 := by
 unfold cpuS
 rw [show (17 : Nat) = 16 + 1 from rfl]
 conv => lhs; unfold repS
theorem i0_ : Eats cpuS := fun s => by
 rw [ux_]
 generalize (16 : Nat) = k
 exact ⟨Nat.le_trans (uw_ b8_ k (intS s).2) (b8_ s).1, fun h => Nat.lt_of_le_of_lt (uw_ b8_ k (intS s).2) ((b8_ s).2 h)⟩
theorem uy_ {α : Type} {one : RS → α × RS} (h : Eats one) : ∀ (k : Nat) (s : RS), (b3_ one k s).2.rest.length ≤ s.rest.length
 | 0, s => Nat.le_refl _
 | k + 1, s => by
  unfold b3_
  split
  · exact Nat.le_trans (uy_ h k (one s).2) (h s).1
  · exact Nat.le_refl _
theorem l0_ {α : Type} {one : RS → α × RS} (h : Eats one) (s : RS) : (du_ one s).2.rest.length ≤ s.rest.length :=
 Nat.le_trans (uy_ h _ (numS s).2) (gt_ s)
theorem qt_ : Eats modS := d0_ f8_ (d0_ f8_ (d0_ b8_ (d0_ b8_ uv_)))
theorem qu_ : Eats strS := d0_ b8_ (d0_ f8_ (d0_ f8_ (d0_ f8_ (d0_ b8_ (d0_ b8_ b8_)))))
theorem xf_ : Eats chkS := d0_ b8_ f8_
theorem qv_ : Eats thrS := fun s => by
 have h1 := i0_ s
 have h2 : ((dn_ intS (dn_ intS (dn_ intS (dn_ intS (du_ cpuS))))) (cpuS s).2).2.rest.length ≤ (cpuS s).2.rest.length := by
  have a := (b8_ (cpuS s).2).1
  have b := (b8_ (intS (cpuS s).2).2).1
  have c := (b8_ (intS (intS (cpuS s).2).2).2).1
  have d := (b8_ (intS (intS (intS (cpuS s).2).2).2).2).1
  have e := l0_ i0_ (intS (intS (intS (intS (cpuS s).2).2).2).2).2
  exact Nat.le_trans e (Nat.le_trans d (Nat.le_trans c (Nat.le_trans b a)))
 exact ⟨Nat.le_trans h2 h1.1, fun h => Nat.lt_of_le_of_lt h2 (h1.2 h)⟩
theorem j3_ {α : Type} {one : RS → α × RS} {n k : Nat} {s1 sk : RS} {vs : List α} (hlt : k < n) (hne : sk.rest ≠ []) (hdb : sk.db = false) (h : b3_ one n s1 = (vs ++ (b3_ one (n - k) sk).1, (b3_ one (n - k) sk).2)) :
 b3_ one n s1 = ((vs ++ [(one sk).1]) ++ (b3_ one (n - (k + 1)) (one sk).2).1, (b3_ one (n - (k + 1)) (one sk).2).2) := by
 rw [h, show n - k = (n - (k + 1)) + 1 by omega]
 have e : b3_ one ((n - (k + 1)) + 1) sk = ((one sk).1 :: (b3_ one (n - (k + 1)) (one sk).2).1, (b3_ one (n - (k + 1)) (one sk).2).2) := by
  conv => lhs; unfold b3_
  rw [if_pos ⟨hne, hdb⟩]
 rw [e, List.append_assoc]
 rfl
theorem bk_ {α : Type} {one : RS → α × RS} {n k : Nat} {s1 sk : RS} {vs : List α} (hkn : k ≤ n) (hstop : ¬ (k < n ∧ sk.rest ≠ [] ∧ sk.db = false)) (h : b3_ one n s1 = (vs ++ (b3_ one (n - k) sk).1, (b3_ one (n - k) sk).2)) :
 b3_ one n s1 = (vs, sk) := by
 have e : b3_ one (n - k) sk = ([], sk) := by
  by_cases hk : k = n
  · subst hk; rw [Nat.sub_self]; rfl
  · rw [show n - k = (n - (k + 1)) + 1 by omega]
    unfold b3_
    rw [if_neg (fun hh => hstop ⟨by omega, hh.1, hh.2⟩)]
 rw [h, e, List.append_nil]
theorem bu_ {α : Type} {one : RS → α × RS} {s s1 sk : RS} {n : Nat} {vs : List α} (en : numS s = (n, s1)) (h : b3_ one n s1 = (vs, sk)) : du_ one s = (vs, ⟨sk.rest, sk.wb, sk.db || decide (vs.length ≠ n)⟩) := by
 unfold du_
 rw [en]
 dsimp only
 rw [h]
theorem ar_ {S : Nat → Prop} {w w' : World} {base : Nat} {e : TypeId} {size : Nat} {v : Value} {n : Nat} {xs : List Value} (h : w.ownsRow base e size v n xs) (ho : Only S w w') (hS : ∀ b, S b → b < base) : w'.ownsRow base e size v n xs := by
 refine ⟨h.1, ?_⟩
 rcases h.2 with h0 | ⟨g, cap, cur, h1, h2, h3, h4⟩
 · exact .inl h0
 · exact .inr ⟨g, cap, cur, h1, h2, ho.kept h3 (fun hs => by have := hS g hs; omega), h4⟩
theorem nb_ : ∀ (L z p : List Value), L.length = z.length → List.foldl (fun (cs : Array Value) (x : Value × Nat) => cs.setIfInBounds x.snd x.fst) (p ++ z).toArray (L.zipIdx p.length) = (p ++ L).toArray
 | [], z, p, h => by
  obtain rfl := List.eq_nil_of_length_eq_zero h.symm
  rfl
 | v :: L, z, p, h => by
  match z, h with
  | u :: z, h =>
   rw [List.zipIdx_cons, List.foldl_cons]
   have e : (p ++ u :: z).toArray.setIfInBounds p.length v = ((p ++ [v]) ++ z).toArray := by
    rw [List.setIfInBounds_toArray, List.set_append_right _ _ (Nat.le_refl _), Nat.sub_self, List.set_cons_zero, List.append_assoc]
    rfl
   show List.foldl _ ((p ++ u :: z).toArray.setIfInBounds p.length v) _ = _
   rw [e]
   have := nb_ L z (p ++ [v]) (by simpa using h)
   rw [List.length_append] at this
   rw [List.append_assoc] at this
   simpa using this
theorem hp_ (L z : List Value) (h : L.length = z.length) : List.foldl (fun (cs : Array Value) (x : Value × Nat) => cs.setIfInBounds x.snd x.fst) z.toArray L.zipIdx = L.toArray := nb_ L z [] h
theorem qw_ {α : Type} {one : RS → α × RS} {P : α → Prop} (h : ∀ s, P (one s).1) : ∀ (k : Nat) (s : RS), ∀ x ∈ (b3_ one k s).1, P x
 | 0, s, x, hx => by simp [b3_] at hx
 | k + 1, s, x, hx => by
  unfold b3_ at hx
  split at hx
  · rcases List.mem_cons.1 hx with rfl | hx
    · exact h s
    · exact qw_ h k _ x hx
  · simp at hx
attribute [local irreducible] cpuS repS
theorem l1_ (s : RS) : (thrS s).1.1.length = 17 ∧ ∀ c ∈ (thrS s).1.2.2.2.2.2, c.length = 17 := by
 unfold thrS
 simp only [dn_]
 refine ⟨ho_ s, ?_⟩
 unfold du_
 exact qw_ (P := fun c : CpuD => c.length = 17) ho_ _ _
theorem ei_ {P : Program} {o : Oper} {a : Act} {w : World} {K : Value → World → Prop} (x : Tmp) (ty : TypeId) (ho : o.op = .load ty (.tmp x))
 (b off : Nat) (hx : a.tmps[x]?.getD undef = .pointer (some ⟨b, off, none⟩)) (cs : List Value) (d : TypeDesc) (hc : w.rangeAt b off cs)
 (hu : P.underlying ty = some d) (hd : d.isRow = true) (hi : (P.info? ty).map (·.size) = some cs.length) (h : K (.agg cs.toArray) w) : opDo P o a w K :=
 bc_ (v := .agg cs.toArray) (by simp [execOp, ho, Act.eval, hx, Instr.loadAt, Instr.sureAddr, run_loadVar_mid w b off ty cs d hc hu hd hi]) h
end
end Go.Proofs.YtacaejpamidkcaaGreatDoor
