/- The example 'tiny': its process; what its calls do. linchpinlaw38.tiny. -/
import Derived.Test.YtkbilipgidcgeaaGreatDoorH40
import Derived.Test.YtkbilipgidcgeaaGreatDoorH41
import Derived.Laws.MakeOwn
import Derived.OwnWalk
import Derived.Test.YtkbilipgidcgeaaGreatDoorH38
set_option linter.unusedVariables false
set_option linter.unusedSimpArgs false
namespace Go.Proofs.YtkbilipgidcgeaaGreatDoor.Tiny
open Go.RowKit Go.ChangeMaps Go.Maps
attribute [local go_sem] ext_cell ext_frozen
attribute [local irreducible] labCells modC threadC

/-- The example's process, with strata and a word in its data. -/
structure TinyAt (h0 : Nat) (B : ByteArray) (L : List UInt8) (w : World) (n : PN) (sv : Value) (l : List Str) (X : Int) : Prop where
  ctx : Ctx B w n sv n.g n.cap l (tinyP L n.b1 n.b2 n.b3 X)
  fresh : ∀ x, spaceFoot n.s (.slice (some ⟨n.g, 0, none⟩) 3 n.cap) (tinyP L n.b1 n.b2 n.b3 X) x → h0 ≤ x
  fp : h0 ≤ n.p

theorem TinyAt.below {h0 : Nat} {B : ByteArray} {L : List UInt8} {w w' : World} {n : PN} {sv : Value} {l : List Str} {X : Int} (h : TinyAt h0 B L w n sv l X) (hb : Below w.heap.size w w') : TinyAt h0 B L w' n sv l X := ⟨h.ctx.below hb, h.fresh, h.fp⟩

theorem foot_b2 (L : List UInt8) (n : PN) (X : Int) : spaceFoot n.s (.slice (some ⟨n.g, 0, none⟩) 3 n.cap) (tinyP L n.b1 n.b2 n.b3 X) n.b2 := .inr (.inr ⟨dataX n.b2 X, by simp [tinyP], rfl⟩)
theorem foot_tiny {L : List UInt8} {n : PN} {X Y : Int} {x : Nat} (h : spaceFoot n.s (.slice (some ⟨n.g, 0, none⟩) 3 n.cap) (tinyP L n.b1 n.b2 n.b3 X) x) : spaceFoot n.s (.slice (some ⟨n.g, 0, none⟩) 3 n.cap) (tinyP L n.b1 n.b2 n.b3 Y) x := by
  rcases h with h | h | ⟨p, hp, h⟩
  · exact .inl h
  · exact .inr (.inl h)
  · simp only [tinyP, List.mem_cons, List.not_mem_nil, or_false] at hp
    rcases hp with rfl | rfl | rfl
    · exact .inr (.inr ⟨_, .head _, h⟩)
    · exact .inr (.inr ⟨_, .tail _ (.head _), h⟩)
    · exact .inr (.inr ⟨_, .tail _ (.tail _ (.head _)), h⟩)

theorem TinyAt.off {h0 : Nat} {B : ByteArray} {L : List UInt8} {w : World} {n : PN} {sv : Value} {l : List Str} {X : Int} (h : TinyAt h0 B L w n sv l X) {b : Nat} {cs : Array Value} {t : TypeId} {f : Nat × Nat} (hb : w.heap[b]? = some (.cells cs t f))
    (h1 : t ≠ 141) (h2 : t ≠ 107) (h3 : t ≠ 5) : ¬ b = n.b2 := fun e => h.ctx.space.notCells hb h1 h2 h3 (e ▸ foot_b2 L n X)

theorem tiny_store (h0 : Nat) (B : ByteArray) (L : List UInt8) (n : PN) (sv : Value) (l : List Str) (X Y : Int) (w : World) (h : TinyAt h0 B L w n sv l X) :
    Calls Tryz.prog 40 #[.pointer (some ⟨n.s, 0, none⟩), .int .i64 768, .int .i64 8, .int .i64 Y] w fun e w' => e = .returned (.int .i64 0) ∧ Only (· = n.b2) w w' ∧ TinyAt h0 B L w' n sv l Y := by
  refine (store_word n.s n.g n.cap (tinyP L n.b1 n.b2 n.b3 X) 768 Y w h.ctx.ok h.ctx.space 1 last_tiny (dataX n.b2 X) rfl (by show (768 : Int) - 768 + 8 ≤ 256; omega) (by decide) (by show (1 : Int) ≠ 0; omega)).mono ?_
  rintro e w' ⟨rfl, ho, hsp⟩
  have ho : Only (· = n.b2) w w' := ho
  refine ⟨rfl, ho, ⟨?_, fun x hx => h.fresh x (foot_tiny hx), h.fp⟩⟩
  have hps : (tinyP L n.b1 n.b2 n.b3 X).set 1 ((dataX n.b2 X).put 768 (wordL Y)) = tinyP L n.b1 n.b2 n.b3 Y := by rw [put_word]; rfl
  rw [hps] at hsp
  obtain ⟨_, _, cm, hcm⟩ := ownsRow_lt h.ctx.mods
  obtain ⟨_, _, ct, hct⟩ := ownsRow_lt h.ctx.thread
  obtain ⟨_, _, cc, hcc⟩ := ownsRow_lt h.ctx.calls
  refine ⟨ho.kept h.ctx.head (h.off h.ctx.head (by decide) (by decide) (by decide)), ho.kept h.ctx.load (h.off h.ctx.load (by decide) (by decide) (by decide)),
    ownsRow_kept h.ctx.mods ho (h.off hcm (by decide) (by decide) (by decide)), ownsRow_kept h.ctx.thread ho (h.off hct (by decide) (by decide) (by decide)), ownsRow_kept h.ctx.calls ho (h.off hcc (by decide) (by decide) (by decide)), hsp, areas_tiny _ _ _ _ _, h.ctx.strs.only ho (fun g hg => ?_), h.ctx.few⟩
  rcases h.ctx.strs with ⟨hh, _⟩ | ⟨g', cap, hh, _, hrow⟩
  · rw [hh] at hg; cases hg
  · rw [hh] at hrow hg
    obtain rfl : g' = g := Option.some.inj hg
    obtain ⟨_, _, c, hc⟩ := ownsRow_lt hrow
    exact h.off hc (by decide) (by decide) (by decide)

theorem tiny_set (h0 base : Nat) (B : ByteArray) (L : List UInt8) (n : PN) (sv nv : Value) (l ls : List Str) (X : Int) (w : World) (h : TinyAt h0 B L w n sv l X) (hs : StrAt w base nv ls) (hm : ls.length ≤ 1000) :
    Calls Tryz.prog 39 #[.pointer (some ⟨n.p, 0, none⟩), nv] w fun e w' => e = .returned (.tuple #[]) ∧ Only (· = n.p) w w' ∧ ∃ sv', TinyAt h0 B L w' n sv' ls X := by
  refine (hset n.p n.s n.b n.l base _ sv nv ls w h.ctx.head hs hm).mono ?_
  rintro e w' ⟨rfl, ho, sv', hp, hst⟩
  refine ⟨rfl, ho, sv', ⟨?_, h.fresh, h.fp⟩⟩
  have hh := h.ctx.head
  have ne : ∀ {b : Nat} {cs : Array Value} {t : TypeId} {f : Nat × Nat}, w.heap[b]? = some (.cells cs t f) → t ≠ 81 → ¬ b = n.p := fun hb ht => block_ne hb hh ht
  obtain ⟨_, _, cm, hcm⟩ := ownsRow_lt h.ctx.mods
  obtain ⟨_, _, ct, hct⟩ := ownsRow_lt h.ctx.thread
  obtain ⟨_, _, cc, hcc⟩ := ownsRow_lt h.ctx.calls
  exact ⟨hp, ho.kept h.ctx.load (ne h.ctx.load (by decide)), ownsRow_kept h.ctx.mods ho (ne hcm (by decide)), ownsRow_kept h.ctx.thread ho (ne hct (by decide)), ownsRow_kept h.ctx.calls ho (ne hcc (by decide)),
    h.ctx.space.kept ho (fun b hb e => h.ctx.space.notCells hh (by decide) (by decide) (by decide) (e ▸ hb)), h.ctx.ok, hst.base (Nat.zero_le _), hm⟩

theorem tiny_hps {L : List UInt8} {b1 b2 b3 : Nat} {X : Int} : ∀ p ∈ tinyP L b1 b2 b3 X, p.at_ + p.size ≤ 1000000 ∧ p.kind ≠ 3 ∧ p.kind ≠ 4 := by
  intro p hp
  simp only [tinyP, List.mem_cons, List.not_mem_nil, or_false] at hp
  rcases hp with rfl | rfl | rfl
  · show (512 : Int) + 256 ≤ 1000000 ∧ (0 : Int) ≠ 3 ∧ (0 : Int) ≠ 4; decide
  · show (768 : Int) + 256 ≤ 1000000 ∧ (1 : Int) ≠ 3 ∧ (1 : Int) ≠ 4; decide
  · show (1280 : Int) + 1024 ≤ 1000000 ∧ (2 : Int) ≠ 3 ∧ (2 : Int) ≠ 4; decide

/-- The example's code. -/
def nopI : InsR := ⟨1, 0, 0, 0, 0⟩
def callI : InsR := ⟨22, 0, 0, 0, 32⟩
def retI : InsR := ⟨26, 0, 0, 0, 0⟩
def tinyI : List InsR := [⟨2, 0, 0, 0, 0⟩, retI, nopI, nopI, nopI, nopI, nopI, nopI, callI, retI, nopI, nopI, retI]
def tinyL : List UInt8 := tinyI.flatMap encI ++ List.replicate 152 0
theorem tinyL_length : tinyL.length = 256 := by unfold tinyL; rw [List.length_append, encI_all]; simp [tinyI]
theorem tinyI_right : ∀ x ∈ tinyI, x.Right := by
  intro x hx
  simp only [tinyI, List.mem_cons, List.not_mem_nil, or_false] at hx
  rcases hx with rfl | rfl | rfl | rfl | rfl | rfl | rfl | rfl | rfl | rfl | rfl | rfl | rfl
  all_goals
    unfold InsR.Right
    refine ⟨by decide, by decide, ?_, ⟨.inr rfl, by decide, by decide⟩, ⟨.inr rfl, by decide, by decide⟩, ⟨.inr rfl, by decide, by decide⟩, ?_⟩
    · unfold ImmG Fit32; decide
    · first | exact .inr rfl | exact .inl (by decide)
def str0 : Str := ⟨0, ⟨#[]⟩, ⟨#[97]⟩, ⟨#[102]⟩, 0, 576, 16⟩
def str1 : Str := ⟨0, ⟨#[]⟩, ⟨#[97]⟩, ⟨#[103]⟩, 0, 608, 8⟩
def strL : List Str := [str0, str1]
def JS (i : Nat) : List InsR := if i = 0 then [callI, retI] else [retI]
def oS (i k : Nat) : Bool := i == 0 && k == 1
def mX (X : Int) (i : Nat) : Bool := if i = 0 then decide (576 ≤ X ∧ X ≤ 592) else decide (608 ≤ X ∧ X ≤ 616)
/-- What is held. -/
def rX (X : Int) : List Bool := if 576 ≤ X ∧ X ≤ 592 then [true, true] else if 608 ≤ X ∧ X ≤ 616 then [false, true] else [false, false]

theorem hits0 (b1 b2 b3 : Nat) (X : Int) : hitsL (tinyP tinyL b1 b2 b3 X) 576 16 = [(576, encI callI), (584, encI retI)] := by
  have h := hits_code tinyL tinyL_length b1 b2 b3 X 8 2 (by omega)
  have e1 := enc_drop tinyI (List.replicate 152 0) 8 (by decide)
  have e2 := enc_drop tinyI (List.replicate 152 0) 9 (by decide)
  refine Eq.trans h ?_
  show [((512 + 8 * ((8 + 0 : Nat) : Int)), (tinyL.drop (8 * (8 + 0))).take 8), ((512 + 8 * ((8 + 1 : Nat) : Int)), (tinyL.drop (8 * (8 + 1))).take 8)] = _
  rw [show (tinyL.drop (8 * (8 + 0))).take 8 = encI callI from e1, show (tinyL.drop (8 * (8 + 1))).take 8 = encI retI from e2]
  rfl
theorem hits1 (b1 b2 b3 : Nat) (X : Int) : hitsL (tinyP tinyL b1 b2 b3 X) 608 8 = [(608, encI retI)] := by
  have h := hits_code tinyL tinyL_length b1 b2 b3 X 12 1 (by omega)
  have e1 := enc_drop tinyI (List.replicate 152 0) 12 (by decide)
  refine Eq.trans h ?_
  show [((512 + 8 * ((12 + 0 : Nat) : Int)), (tinyL.drop (8 * (12 + 0))).take 8)] = _
  rw [show (tinyL.drop (8 * (12 + 0))).take 8 = encI retI from e1]
  rfl
theorem call_word : sgn64 (leN (encI callI)) = 137438953494 := by decide +kernel
theorem ret_word : sgn64 (leN (encI retI)) = 26 := by decide +kernel
theorem callI_right : callI.Right := tinyI_right _ (by simp [tinyI])
theorem retI_right : retI.Right := tinyI_right _ (by simp [tinyI])
theorem no_comb0 (z : Int) : ¬ Comb (lowsJ [callI, retI]) (highsJ [callI, retI]) z := by
  rintro ⟨r, lo, hlo, _⟩
  simp [lowsJ, callI, retI] at hlo
theorem no_comb1 (z : Int) : ¬ Comb (lowsJ [retI]) (highsJ [retI]) z := by
  rintro ⟨r, lo, hlo, _⟩
  simp [lowsJ, retI] at hlo
theorem ret_none {z a : Int} (h : (JumpOp 26 ∧ z = a) ∨ ((26 : Int) = 3 ∧ z = 0)) : False := by
  rcases h with ⟨h, _⟩ | ⟨h, _⟩
  · exact absurd h (by unfold JumpOp; decide)
  · exact absurd h (by decide)
theorem made0 (z : Int) : MadeTo [(576, encI callI), (584, encI retI)] [callI, retI] 2 z ↔ z = 608 := by
  constructor
  · rintro ⟨j, h1, h2, hj, h⟩
    have hj2 : j = 0 ∨ j = 1 := by omega
    rcases hj2 with rfl | rfl
    · rcases h with ⟨_, h⟩ | ⟨h, _⟩
      · exact h
      · exact absurd (show (22 : Int) = 3 from h) (by decide)
    · exact (ret_none (a := 584) h).elim
  · rintro rfl
    exact ⟨0, by decide, by decide, by decide, .inl ⟨show JumpOp 22 by unfold JumpOp; decide, rfl⟩⟩
theorem made1 (z : Int) : ¬ MadeTo [(608, encI retI)] [retI] 1 z := by
  rintro ⟨j, h1, h2, hj, h⟩
  obtain rfl : j = 0 := by omega
  exact ret_none (a := 608) h
theorem own0 (b1 b2 b3 : Nat) (X z : Int) : OwnS (tinyP tinyL b1 b2 b3 X) str0 [callI, retI] z ↔ z = 608 ∨ z = 137438953494 ∨ z = 26 := by
  unfold OwnS
  rw [show str0.at_ = 576 from rfl, show str0.size = 16 from rfl, hits0]
  constructor
  · rintro (h | h | ⟨e, he, h⟩)
    · exact .inl ((made0 z).1 h)
    · exact absurd h (no_comb0 z)
    · simp only [List.mem_cons, List.not_mem_nil, or_false] at he
      rcases he with rfl | rfl
      · exact .inr (.inl (h.trans call_word))
      · exact .inr (.inr (h.trans ret_word))
  · rintro (h | h | h)
    · exact .inl ((made0 z).2 h)
    · exact .inr (.inr ⟨_, .head _, h.trans call_word.symm⟩)
    · exact .inr (.inr ⟨_, .tail _ (.head _), h.trans ret_word.symm⟩)
theorem own1 (b1 b2 b3 : Nat) (X z : Int) : OwnS (tinyP tinyL b1 b2 b3 X) str1 [retI] z ↔ z = 26 := by
  unfold OwnS
  rw [show str1.at_ = 608 from rfl, show str1.size = 8 from rfl, hits1]
  constructor
  · rintro (h | h | ⟨e, he, h⟩)
    · exact absurd h (made1 z)
    · exact absurd h (no_comb1 z)
    · simp only [List.mem_cons, List.not_mem_nil, or_false] at he
      rcases he with rfl
      exact h.trans ret_word
  · intro h
    exact .inr (.inr ⟨_, .head _, h.trans ret_word.symm⟩)
theorem dec_get {hs : List (Int × List UInt8)} {J : List InsR} (h : ∀ k (h1 : k < hs.length) (h2 : k < J.length), hs[k].2 = encI J[k] ∧ J[k].Right) : ∀ k (h1 : k < hs.length) (h2 : k < J.length), DecOk hs[k].2 J[k] := fun k h1 h2 => by
  obtain ⟨e, hr⟩ := h k h1 h2
  rw [e]
  exact decOk_enc _ hr
theorem dec_of {hs hs' : List (Int × List UInt8)} {J : List InsR} (e : hs = hs') (h : ∀ k (h1 : k < hs'.length) (h2 : k < J.length), DecOk hs'[k].2 J[k]) : ∀ k (h1 : k < hs.length) (h2 : k < J.length), DecOk hs[k].2 J[k] := by
  subst e
  exact h
theorem dec0 : ∀ k (h1 : k < ([(576, encI callI), (584, encI retI)] : List (Int × List UInt8)).length) (h2 : k < [callI, retI].length), DecOk (([(576, encI callI), (584, encI retI)] : List (Int × List UInt8))[k]).2 [callI, retI][k] := dec_get fun k h1 h2 => by
  have : k = 0 ∨ k = 1 := by simp at h2; omega
  rcases this with rfl | rfl
  · exact ⟨rfl, callI_right⟩
  · exact ⟨rfl, retI_right⟩
theorem dec1 : ∀ k (h1 : k < ([(608, encI retI)] : List (Int × List UInt8)).length) (h2 : k < [retI].length), DecOk (([(608, encI retI)] : List (Int × List UInt8))[k]).2 [retI][k] := dec_get fun k h1 h2 => by
  obtain rfl : k = 0 := by simp at h2; omega
  exact ⟨rfl, retI_right⟩
theorem own_tiny (b1 b2 b3 : Nat) (X : Int) : ∀ i (hi : i < strL.length), OwnOk (tinyP tinyL b1 b2 b3 X) strL[i] (JS i) ∧ ∀ k (hk : k < strL.length), oS i k = true ↔ ∃ z, OwnS (tinyP tinyL b1 b2 b3 X) strL[i] (JS i) z ∧ strL[k].at_ ≤ z ∧ z - strL[k].at_ ≤ strL[k].size := by
  intro i hi
  have hi2 : i = 0 ∨ i = 1 := by simp [strL] at hi; omega
  rcases hi2 with rfl | rfl
  · show OwnOk _ str0 [callI, retI] ∧ ∀ k (hk : k < strL.length), oS 0 k = true ↔ ∃ z, OwnS _ str0 [callI, retI] z ∧ _
    refine ⟨⟨rfl, by decide, by decide, by decide, ?_, ?_, by decide⟩, ?_⟩
    · show 2 = (hitsL _ 576 16).length
      rw [hits0]; rfl
    · exact dec_of (hits0 b1 b2 b3 X) dec0
    · intro k hk
      have hk2 : k = 0 ∨ k = 1 := by simp [strL] at hk; omega
      simp only [own0]
      rcases hk2 with rfl | rfl
      · show oS 0 0 = true ↔ ∃ z, _ ∧ (576 : Int) ≤ z ∧ z - 576 ≤ 16
        refine ⟨fun h => absurd h (by decide), ?_⟩
        rintro ⟨z, h, h1, h2⟩
        omega
      · show oS 0 1 = true ↔ ∃ z, _ ∧ (608 : Int) ≤ z ∧ z - 608 ≤ 8
        exact ⟨fun _ => ⟨608, .inl rfl, by decide, by decide⟩, fun _ => rfl⟩
  · show OwnOk _ str1 [retI] ∧ ∀ k (hk : k < strL.length), oS 1 k = true ↔ ∃ z, OwnS _ str1 [retI] z ∧ _
    refine ⟨⟨rfl, by decide, by decide, by decide, ?_, ?_, by decide⟩, ?_⟩
    · show 1 = (hitsL _ 608 8).length
      rw [hits1]; rfl
    · exact dec_of (hits1 b1 b2 b3 X) dec1
    · intro k hk
      have hk2 : k = 0 ∨ k = 1 := by simp [strL] at hk; omega
      simp only [own1]
      rcases hk2 with rfl | rfl
      · show oS 1 0 = true ↔ ∃ z, _ ∧ (576 : Int) ≤ z ∧ z - 576 ≤ 16
        refine ⟨fun h => absurd h (by decide), ?_⟩
        rintro ⟨z, h, h1, h2⟩
        omega
      · show oS 1 1 = true ↔ ∃ z, _ ∧ (608 : Int) ≤ z ∧ z - 608 ≤ 8
        refine ⟨fun h => absurd h (by decide), ?_⟩
        rintro ⟨z, h, h1, h2⟩
        omega
theorem met_tiny (L : List UInt8) (b1 b2 b3 : Nat) (X : Int) (h1 : -9223372036854775808 ≤ X) (h2 : X ≤ 9223372036854775807) : ∀ i (hi : i < strL.length), mX X i = true ↔ ∃ z, RootS (tinyP L b1 b2 b3 X) z ∧ strL[i].at_ ≤ z ∧ z - strL[i].at_ ≤ strL[i].size := by
  intro i hi
  have hi2 : i = 0 ∨ i = 1 := by simp [strL] at hi; omega
  simp only [root_iff L b1 b2 b3 X _ h1 h2]
  rcases hi2 with rfl | rfl
  · show decide (576 ≤ X ∧ X ≤ 592) = true ↔ ∃ z, _ ∧ (576 : Int) ≤ z ∧ z - 576 ≤ 16
    rw [decide_eq_true_eq]
    exact ⟨fun h => ⟨X, .inr (.inr (.inr rfl)), by omega, by omega⟩, fun ⟨z, h, h3, h4⟩ => by omega⟩
  · show decide (608 ≤ X ∧ X ≤ 616) = true ↔ ∃ z, _ ∧ (608 : Int) ≤ z ∧ z - 608 ≤ 8
    rw [decide_eq_true_eq]
    exact ⟨fun h => ⟨X, .inr (.inr (.inr rfl)), by omega, by omega⟩, fun ⟨z, h, h3, h4⟩ => by omega⟩
/-- What the main loop ends with. -/
theorem iter_tiny (X : Int) (j : Nat) (h : (iterH oS 2 j (markS (mX X) (List.range 2) (List.replicate 2 false, []))).2 = []) : (iterH oS 2 j (markS (mX X) (List.range 2) (List.replicate 2 false, []))).1 = rX X := by
  have hr : iterH oS 2 2 (markS (mX X) (List.range 2) (List.replicate 2 false, [])) = (rX X, []) := by
    by_cases c1 : 576 ≤ X ∧ X ≤ 592
    · have e0 : mX X 0 = true := by unfold mX; simp [c1]
      have e1 : mX X 1 = false := by unfold mX; simp; omega
      have hm : markS (mX X) (List.range 2) (List.replicate 2 false, []) = ([true, false], [0]) := by
        show mark1 (mX X) (mark1 (mX X) ([false, false], []) 0) 1 = _
        simp [mark1, e0, e1]
      rw [hm]
      unfold rX
      rw [if_pos c1]
      rfl
    · by_cases c2 : 608 ≤ X ∧ X ≤ 616
      · have e0 : mX X 0 = false := by unfold mX; simp; omega
        have e1 : mX X 1 = true := by unfold mX; simp [c2]
        have hm : markS (mX X) (List.range 2) (List.replicate 2 false, []) = ([false, true], [1]) := by
          show mark1 (mX X) (mark1 (mX X) ([false, false], []) 0) 1 = _
          simp [mark1, e0, e1]
        rw [hm]
        unfold rX
        rw [if_neg c1, if_pos c2]
        rfl
      · have e0 : mX X 0 = false := by unfold mX; simp; omega
        have e1 : mX X 1 = false := by unfold mX; simp; omega
        have hm : markS (mX X) (List.range 2) (List.replicate 2 false, []) = ([false, false], []) := by
          show mark1 (mX X) (mark1 (mX X) ([false, false], []) 0) 1 = _
          simp [mark1, e0, e1]
        rw [hm]
        unfold rX
        rw [if_neg c1, if_neg c2]
        rfl
  rw [iter_same oS 2 _ j 2 h (by rw [hr]), hr]
end Go.Proofs.YtkbilipgidcgeaaGreatDoor.Tiny

namespace Go.Proofs.YtkbilipgidcgeaaGreatDoor.Tiny
open Go.RowKit
attribute [local go_sem] ext_cell ext_frozen

theorem mk_bytes (n : Nat) (hn : n ≤ 1000000) (w : World) : (Instr.makeSlice 76 (.int .i64 n) (.int .i64 n)).run Tryz.prog w = .ok (.slice (some ⟨w.heap.size, 0, none⟩) n n) (w.alloc (.cells (byteCells (List.replicate n 0)).toArray 5)) := by
  obtain ⟨i0, hi, hz0, hz1, hz2⟩ := info_parts info_byte
  have h := run_make (P := Tryz.prog) w 76 5 i0 (.int .u8 0) Tryz.underlying76 hi hz0 .i64 .i64 (n : Int) (n : Int) (by omega) (by omega) (by rw [hz2]; omega) (by omega)
  rw [h, hz1]
  have : madeCells (Value.cells (.int .u8 0)) ((n : Int).toNat * 1) = (byteCells (List.replicate n 0)).toArray := by
    rw [show Value.cells (.int .u8 0) = #[.int .u8 0] from rfl, made_one]
    simp [byteCells]
  rw [this]
  simp
theorem wpList_gets {P : Program} {ops : Array Oper} {rest : List Oper} {o : Oper} {a : Act} {w w' : World} {v : Value} {Q : Exit → Act → World → Prop} (hgd : o.guard = none)
    (he : (execOp a.eval o).run P w = .ok (.value v) w') (h : wpList P ops Q rest (a.put o.dst v) w') : wpList P ops Q (o :: rest) a w := by
  refine wpList_plain hgd fun _ hK => ?_
  unfold Oper.wp
  simp [he]
  exact hK _ _ h
theorem conv_new {n : Nat} {b : Nat} {w : World} (h : w.heap[b]? = some (.cells (byteCells (List.replicate n 0)).toArray 5 (0, 0))) (t : Tmp) (o : Oper) (a : Act) (ho : o.op = .convert 76 9 (.tmp t)) (h1 : a.tmps[t]?.getD undef = .slice (some ⟨b, 0, none⟩) n n) :
    (execOp a.eval o).run Tryz.prog w = .ok (.value (.string ⟨(List.replicate n 0).toArray⟩)) w := by
  have hrun := run_convert_bytes_back (P := Tryz.prog) w 76 9 5 ⟨b, 0, none⟩ n (List.replicate n 0) Tryz.underlying76 Tryz.underlying5 Tryz.underlying9 (fun j hj => by
    rw [addr0]; exact bytes_cell h j hj)
  rw [List.length_replicate] at hrun
  simp [execOp, ho, Act.eval, h1, hrun]
theorem build_tiny (t : Tmp) (B : ByteArray) (o : Oper) (a : Act) (w : World) (ho : o.op = .build 45 #[(0, .const (.string ⟨#[116, 105, 110, 121]⟩)), (2, .const (.int .i64 256)), (3, .const (.int .i64 256)), (4, .const (.int .i64 512)), (5, .tmp t)]) (h : a.tmps[t]?.getD undef = .string B) :
    (execOp a.eval o).run Tryz.prog w = .ok (.value (.agg (labCells B))) w := by
  unfold labCells labS
  simp [execOp, ho, h, go_sem]

attribute [local irreducible] labCells

theorem insV_new {W : World} {g : Nat} {l : List InsR} {t : TypeId} {fr : Nat × Nat} (h : W.heap[g]? = some (.cells (insCells l).toArray t fr)) : InsV W.heap.size W (.slice (some ⟨g, 0, none⟩) l.length l.length) l := .inr ⟨g, 0, _, rfl, lt_of_block h, fun j u hu => by rw [Nat.zero_add]; exact cell_l h j hu⟩

set_option maxRecDepth 100000 in
set_option maxHeartbeats 4000000 in
theorem tiny_any (w : World) (hf : Forms w) :
    Calls Tryz.prog 14 #[] w fun e w' => Below w.heap.size w w' ∧ ∃ g, w.heap.size ≤ g ∧ e = .returned (.tuple #[.agg (labCells ⟨tinyL.toArray⟩), .slice (some ⟨g, 0, none⟩) 2 2]) ∧ w'.heap[g]? = some (.cells (strsCells strL).toArray 125 (0, 0)) := by
  have HF := Lib.hid hf
  clear hf
  go_enter Tryz.func14, Tryz.ntmps14
  go_wp2_with fail
  go_at_call 15
  refine (code_any _ tinyI _ (HF.out.below (((Below.refl _ _).alloc (Nat.le_refl _) _).alloc (by simp) _)) (insV_new (heap_alloc2_new w _ _)) (by decide)).mono ?_
  rintro e w1 ⟨hb1, rfl⟩
  rw [encs_right tinyI tinyI_right]
  have hcl : ((⟨(tinyI.flatMap encI).toArray⟩ : ByteArray).size : Int) = 104 := by
    show (((tinyI.flatMap encI).toArray.size : Nat) : Int) = 104
    rw [List.size_toArray, encI_all]
    rfl
  obtain ⟨S, hS⟩ : ∃ S, S = (⟨(tinyI.flatMap encI).toArray⟩ : ByteArray) := ⟨_, rfl⟩
  rw [← hS] at hcl ⊢
  have k0 := (hb1.block w.heap.size (by simp; omega)).trans (block_old (heap_alloc_new w _))
  have hb : Below w.heap.size w w1 := (((Below.refl w.heap.size w).alloc (Nat.le_refl _) _).alloc (by simp) _).trans (hb1.mono (by simp; omega))
  have l1 := hb.size
  have H1 := Lib.hid (And.intro hb (And.intro k0 (And.intro hS hcl)))
  obtain ⟨zs, hzs⟩ : ∃ zs : List UInt8, zs = List.replicate 152 0 := ⟨_, rfl⟩
  have hzl : zs.length = 152 := by rw [hzs, List.length_replicate]
  have hmk : ∀ w : World, (Instr.makeSlice 76 (.int .i64 152) (.int .i64 152)).run Tryz.prog w = .ok (.slice (some ⟨w.heap.size, 0, none⟩) 152 152) (w.alloc (.cells (byteCells zs).toArray 5)) := fun w => by rw [hzs]; exact mk_bytes 152 (by omega) w
  have hcv := run_convert_bytes_back (P := Tryz.prog) (w1.alloc (.cells (byteCells zs).toArray 5)) 76 9 5 ⟨w1.heap.size, 0, none⟩ 152 zs Tryz.underlying76 Tryz.underlying5 Tryz.underlying9 (fun j hj => by
    rw [addr0]; exact bytes_cell (heap_alloc_new _ _) j hj)
  obtain ⟨Z, hZ⟩ : ∃ Z, Z = (⟨zs.toArray⟩ : ByteArray) := ⟨_, rfl⟩
  rw [hzl, ← hZ] at hcv
  have hsz : ¬ 9223372036854775807 < S.size + Z.size := by
    have : Z.size = 152 := by rw [hZ]; show zs.toArray.size = 152; rw [List.size_toArray, hzl]
    omega
  have HZ := Lib.hid (And.intro hzs hZ)
  clear hb1 k0 hb hzs hzl hZ hS
  go_upto_region 3 with (first
    | (refine wpList_gets rfl (build_tiny 25 _ _ _ _ rfl rfl) ?_)
    | ((with_reducible refine at_store_law ?_); refine wpList_store_row rfl 45 _ _ rfl _ _ rfl rfl _ _ (heap_alloc2_new _ _ _) (lab_size _) (by unfold labCells; rfl) (lab_one _) ?_; (try simp only [World.setRow_alloc_new]))
    | fail)
  refine name_world fun V hV => ?_
  have vB : Below w1.heap.size w1 V := by rw [← hV]; exact ((((Only.refl (fun k => w1.heap.size ≤ k) w1).alloc _).alloc _).setRow _ _ (.inl (Nat.le_succ _))).below (Nat.le_refl _) (fun k h => h)
  have v3 : V.heap[w1.heap.size + 1]? = some (.cells (labCells (S ++ Z)) 45 (0, 0)) := by rw [← hV]; exact setRow_heap _ _ _ _ _ _ (heap_alloc2_new _ _ _)
  have v0 := (vB.block _ (lt_of_block H1.out.2.1)).trans H1.out.2.1
  have HV := Lib.hid (And.intro vB (And.intro v3 v0))
  have lV := vB.size
  clear hV vB v3 v0 hmk hcv
  go_wp2_with (first
    | (refine wpList_load_row rfl 45 (.tmp 3) rfl _ rfl 45 (labCells (S ++ Z)) (0, 0) _ HV.out.2.1 Tryz.underlying45 rfl (lab_size _) ?_)
    | ((with_reducible refine at_store_law ?_); refine wpList_store_row rfl 45 _ _ rfl _ _ rfl rfl _ _ (block_old HV.out.2.2) (lab_size _) (by unfold labCells; rfl) (lab_one _) ?_; (try simp only [World.setRow_alloc_new]))
    | fail)
  refine bodyPost_ret (results_cell_tmp rfl _ _ w.heap.size _ _ _ _ rfl (setRow_heap _ _ _ _ _ _ (block_old HV.out.2.2)) Tryz.underlying45 rfl (lab_size _)) rfl ?_
  have hSZ : S ++ Z = ⟨tinyL.toArray⟩ := by rw [H1.out.2.2.1, HZ.out.2, HZ.out.1, append_str]; rfl
  rw [hSZ]
  refine ⟨(((Only.of_below_le (H1.out.1.trans (HV.out.1.mono l1)) (fun k _ h => h) : Only (fun b => w.heap.size ≤ b) w V).alloc _).setRow _ _ (.inl (Nat.le_refl _))).below (Nat.le_refl _) (fun k h => h), V.heap.size, Nat.le_trans l1 lV, rfl, ?_⟩
  have l0 := lt_of_block HV.out.2.2
  rw [setRow_other _ _ _ _ (by omega)]
  exact heap_alloc_new _ _
end Go.Proofs.YtkbilipgidcgeaaGreatDoor.Tiny
