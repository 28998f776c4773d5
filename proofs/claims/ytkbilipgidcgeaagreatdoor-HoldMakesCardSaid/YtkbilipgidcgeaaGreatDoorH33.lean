/- hold: old, at addresses behind all strata. space: Load of a word. hold: words: what the hits are; never. Regions that draw their order, one of whose operations writes rows that no other one reads. No program in sight. -/
import Derived.Test.YtkbilipgidcgeaaGreatDoorH32
import Derived.Test.YtkbilipgidcgeaaGreatDoorH10
import Derived.Test.YtkbilipgidcgeaaGreatDoorH12
import Derived.Test.YtkbilipgidcgeaaGreatDoorH14
import Derived.Test.YtkbilipgidcgeaaGreatDoorH05
set_option linter.unusedVariables false
set_option linter.unusedSimpArgs false
namespace Go.Proofs.YtkbilipgidcgeaaGreatDoor.Tiny
open Go.RowKit Go.ChangeMaps
attribute [local go_sem] ext_cell ext_frozen
attribute [local irreducible] labCells modC threadC

/-- An address behind a stratum. -/
structure Far (s : Str) (a : Int) : Prop where
  lo : 0 ≤ s.at_
  pos : 0 < s.size
  le : s.at_ + s.size ≤ a

set_option maxRecDepth 100000 in
set_option maxHeartbeats 1000000 in
theorem old1 (B : ByteArray) (x : VN) (p bv ba : Nat) (l : List Str) (ps : List Part) (s : Str) (a : Int) (w : World) (hV : ViewAt B w x p l ps) (hv : w.cell? ⟨bv, 0, none⟩ = some (.pointer (some ⟨x.v, 0, none⟩))) (ha : w.cell? ⟨ba, 0, none⟩ = some (.int .i64 a)) (hf : Far s a) (hb : a ≤ 1000000) (hbv : bv < w.heap.size) (hba : ba < w.heap.size) :
    Calls Tryz.prog 270 #[.agg (strCells s).toArray, .pointer (some ⟨bv, 0, none⟩), .pointer (some ⟨ba, 0, none⟩)] w fun e w' => e = .returned (.bool false) ∧ Below w.heap.size w w' := by
  obtain ⟨h0, h1, h2⟩ := hf
  have HV := Lib.hid hV
  clear hV
  unfold strCells
  go_enter Tryz.func270, Tryz.ntmps270
  go_upto_region 1 with fail
  refine name_world fun W hW => ?_
  have wB : Below w.heap.size w W := by rw [← hW]; go_grown
  have wc : W.heap[w.heap.size]? = some (.cells [.int .i64 s.mod, .string s.im, .string s.obj, .string s.sec, .int .i64 s.kind, .int .i64 s.at_, .int .i64 s.size].toArray 125 (0, 0)) := by rw [← hW]; exact heap_alloc_new _ _
  have c0 := cell_l wc 0 rfl
  have c5 := cell_l wc 5 rfl
  have c6 := cell_l wc 6 rfl
  have kv := (wB.cell (p := ⟨bv, 0, none⟩) hbv).trans hv
  have ka := (wB.cell (p := ⟨ba, 0, none⟩) hba).trans ha
  have HW := Lib.hid wB
  clear wB wc hW hv ha
  go_wp2_with fail
  go_at_call 82
  refine (vmapped B x p l ps s.mod W (HV.out.below HW.out)).mono ?_
  rintro e w1 ⟨rfl, rfl⟩
  have hwr : IntKind.i64.wrap (a - s.at_) = a - s.at_ := IntWalk.i64_in _ (by omega)
  have hwr2 : IntKind.i64.wrap (a + 8) = a + 8 := IntWalk.i64_in _ (by omega)
  have e1 : s.at_ ≤ a := by omega
  have e2 : 0 ≤ a - s.at_ := by omega
  have e3 : ¬ a - s.at_ < s.size := by omega
  have e4 : ¬ a < s.at_ := by omega
  have e5 : ¬ s.size ≤ 0 := by omega
  clear h0 h1 h2
  by_cases hm : s.mod = 0
  · have e6 : decide (s.mod = 0) = true := by simpa using hm
    rw [e6]
    clear e6 hm
    go_wp2
    go_ret
    exact ⟨rfl, HW.out⟩
  · have e6 : decide (s.mod = 0) = false := by simpa using hm
    rw [e6]
    clear e6 hm
    go_wp2
    go_ret
    exact ⟨rfl, HW.out⟩

theorem str_range {w : World} {base g cap : Nat} {l : List Str} (h : w.ownsRow base 125 7 (.slice (some ⟨g, 0, none⟩) l.length cap) l.length (strsCells l)) (k : Nat) (hk : k < l.length) : w.rangeAt g (k * 7) (strCells l[k]) := by
  intro j v hv
  have hj : j < 7 := (List.getElem?_eq_some_iff.1 hv).1
  exact (row_cell h (k * 7 + j) ((strs_get l k hk j hj).trans hv)).1
theorem str_len (s : Str) : (Tryz.prog.info? 125).map (·.size) = some (strCells s).length := by kernel_rfl

set_option maxRecDepth 100000 in
set_option maxHeartbeats 1000000 in
theorem old_index (B : ByteArray) (x : VN) (p bv ba : Nat) (l : List Str) (ps : List Part) (a : Int) (w : World) (hV : ViewAt B w x p l ps) (hv : w.cell? ⟨bv, 0, none⟩ = some (.pointer (some ⟨x.v, 0, none⟩))) (ha : w.cell? ⟨ba, 0, none⟩ = some (.int .i64 a)) (hf : ∀ s ∈ l, Far s a) (hl : l.length ≤ 1000) (hb : a ≤ 1000000) (hbv : bv < w.heap.size) (hba : ba < w.heap.size) :
    Calls Tryz.prog 313 #[x.sv, .func (.func 270) #[] #[.pointer (some ⟨bv, 0, none⟩), .pointer (some ⟨ba, 0, none⟩)]] w fun e w' => e = .returned (.int .i64 (-1)) ∧ Below w.heap.size w w' := by
  have HV := Lib.hid (And.intro hV (And.intro hv (And.intro ha hf)))
  rcases hV.strs with ⟨h, h'⟩ | ⟨g, cap, h, hpos, hrow⟩
  · rw [h]
    clear hV hv ha hf
    go_enter Tryz.func313, Tryz.ntmps313
    go_wp2
    refine wp_loop_rounds 1 ?_
    rw [rounds_succ]
    go_wp2
    go_ret
    exact ⟨rfl, Below.refl _ _⟩
  · rw [h] at hrow ⊢
    have HR := Lib.hid hrow
    clear hV hv ha hf hrow h
    go_enter Tryz.func313, Tryz.ntmps313
    go_wp2
    go_loopw [4, 5, 8] (fun _ _ i wr => ∃ k : Nat, k ≤ l.length ∧ i = .int .i64 k ∧ Below w.heap.size w wr) (fun _ _ i _ => l.length - (vI i).toNat)
    case atStart => exact ⟨0, Nat.zero_le _, rfl, Below.refl _ _⟩
    case round =>
      obtain ⟨k, hk, rfl, hbr⟩ := hrel
      by_cases hlt : k < l.length
      · have HB := Lib.hid hbr
        have hbr' := hbr.size
        clear hbr
        go_wp2_with (first
          | (refine wpList_load_mid rfl 125 (.tmp 14) rfl g (k * 7) rfl (strCells l[k]) _ (str_range (ownsRow_below' HR.out HB.out) k hlt) Tryz.underlying125 rfl (str_len _) ?_)
          | (go_at_call 270
             refine (old1 B x p bv ba l ps l[k] a _ (HV.out.1.below HB.out) ((HB.out.cell (p := ⟨bv, 0, none⟩) hbv).trans HV.out.2.1) ((HB.out.cell (p := ⟨ba, 0, none⟩) hba).trans HV.out.2.2.1) (HV.out.2.2.2 _ (List.getElem_mem hlt)) hb (by omega) (by omega)).mono ?_
             rintro e w1 ⟨rfl, hb1⟩; have H1 := Lib.hid (HB.out.trans (hb1.mono hbr')); clear hb1))
        go_roundw
        case rel => exact ⟨k + 1, by omega, by go_num, H1.out⟩
        case measure => simp [vI]; omega
      · obtain rfl : k = l.length := by omega
        have HB := Lib.hid hbr
        clear hbr
        go_wp2
        go_ret
        exact ⟨rfl, HB.out⟩

set_option maxRecDepth 100000 in
set_option maxHeartbeats 1000000 in
theorem old_far (B : ByteArray) (x : VN) (p : Nat) (l : List Str) (ps : List Part) (a : Int) (w : World) (hV : ViewAt B w x p l ps) (hf : ∀ s ∈ l, Far s a) (hl : l.length ≤ 1000) (hb : a ≤ 1000000) :
    Calls Tryz.prog 180 #[.pointer (some ⟨x.v, 0, none⟩), .int .i64 a] w fun e w' => e = .returned (.bool false) ∧ Below w.heap.size w w' := by
  have HV := Lib.hid (And.intro hV hf)
  have c2 := cell_l hV.head 2 rfl
  have lv := lt_of_block hV.head
  obtain ⟨vs, vn, vc, hsv⟩ := hV.strs.slice
  rw [hsv] at c2
  clear hV hf
  go_enter Tryz.func180, Tryz.ntmps180
  go_wp2_with fail
  go_at_call 269
  rw [← hsv]
  have ba : Below w.heap.size w ((w.alloc (.cells #[.pointer (some ⟨x.v, 0, none⟩)] 128)).alloc (.cells #[.int .i64 a] 3)) := ((Below.refl _ _).alloc (Nat.le_refl _) _).alloc (by simp) _
  have hC : Calls Tryz.prog 269 #[x.sv, .func (.func 270) #[] #[.pointer (some ⟨w.heap.size, 0, none⟩), .pointer (some ⟨w.heap.size + 1, 0, none⟩)]] ((w.alloc (.cells #[.pointer (some ⟨x.v, 0, none⟩)] 128)).alloc (.cells #[.int .i64 a] 3)) fun e w' => e = .returned (.bool false) ∧ Below w.heap.size w w' := by
    have hI := old_index B x p w.heap.size (w.heap.size + 1) l ps a _ (HV.out.1.below ba) (cell_in (block_old (heap_alloc_new w _)) 0 rfl) (cell_in (heap_alloc2_new w _ _) 0 rfl) HV.out.2 hl hb (by simp; omega) (by simp)
    rw [hsv] at hI ⊢
    have HI := Lib.hid hI
    clear hI
    generalize ((w.alloc (.cells #[.pointer (some ⟨x.v, 0, none⟩)] 128)).alloc (.cells #[.int .i64 a] 3)) = W at *
    go_enter Tryz.func269, Tryz.ntmps269
    go_wp2_with fail
    go_at_call 313
    refine HI.out.mono ?_
    rintro e w1 ⟨rfl, hb1⟩
    have H1 := Lib.hid (ba.trans (hb1.mono ba.size))
    clear hb1
    go_wp2
    go_ret
    exact ⟨rfl, H1.out⟩
  refine hC.mono ?_
  rintro e w1 ⟨rfl, hb1⟩
  have H1 := Lib.hid hb1
  clear hb1 hC ba c2
  go_wp2
  go_ret
  exact ⟨rfl, H1.out⟩
end Go.Proofs.YtkbilipgidcgeaaGreatDoor.Tiny

namespace Go.Proofs.YtkbilipgidcgeaaGreatDoor
open Go.RowKit
attribute [local go_sem] ext_cell ext_frozen

set_option maxRecDepth 100000 in
set_option maxHeartbeats 2000000 in
theorem load_word (s g cap : Nat) (ps : List Part) (a : Int) (w : World) (hA : AreasOk ps) (hsp : SpaceAt w s (.slice (some ⟨g, 0, none⟩) ps.length cap) ps)
    (k : Nat) (hk : LastAt ps a k) (p : Part) (hp : p = ps[k]'hk.lt) (hin : a - p.at_ + 8 ≤ p.size) (hm : a.tmod 8 = 0) :
    Calls Tryz.prog 10 #[.pointer (some ⟨s, 0, none⟩), .int .i64 a, .int .i64 8] w fun e w' =>
      Below w.heap.size w w' ∧ e = .returned (.tuple #[.int .i64 (sgn64 (leN (readL p a 8))), .int .i64 0]) := by
  have hls := lt_of_block hsp.head
  have hk1 := hk.le
  rw [← hp] at hk1
  have hmem : p ∈ ps := by rw [hp]; exact List.getElem_mem hk.lt
  obtain ⟨e1, e2, e3, e4, e5⟩ := hA.each p hmem
  obtain ⟨b1, b2, cur, b3, b4, b5⟩ := hsp.bytes.2 p hmem
  have hbl := lt_of_block b3
  have HF := Lib.hid (access_word s g cap ps a w hA hsp k hk p hp hin hm)
  have HB := Lib.hid (And.intro b3 (And.intro b4 b5))
  unfold partV bytesV at HF
  clear b3 b4 b5 hA hsp hk hp hmem e2 hm
  go_enter Tryz.func10, Tryz.ntmps10
  go_wp2_with (go_at_call 29; refine HF.out.mono ?_; rintro e w1 ⟨hb1, rfl⟩; have hsz1 := hb1.size)
  have hlen : (readL p a 8).length = 8 := by simp [readL]; omega
  have hl2 : (a - p.at_ + 8).toNat - (a - p.at_).toNat = (readL p a 8).length := by omega
  obtain ⟨b3, b4, b5⟩ := HB.out
  rw [hl2, run_convert_bytes_back _ 76 9 5 ⟨p.blk, (a - p.at_).toNat, none⟩ _ (readL p a 8) Tryz.underlying76 Tryz.underlying5 Tryz.underlying9 ?hc]
  case hc =>
    intro j hj
    rw [hlen] at hj
    have hj2 : (a - p.at_).toNat + j < p.data.length := by omega
    have h1 : (byteCells p.data)[(a - p.at_).toNat + j]? = some (.int .u8 (p.data[(a - p.at_).toNat + j].toNat : Int)) := by simp [byteCells, List.getElem?_eq_getElem hj2]
    rw [← b5, List.getElem?_take_of_lt hj2] at h1
    have h2 : w.cell? ⟨p.blk, (a - p.at_).toNat + j, none⟩ = some (.int .u8 (p.data[(a - p.at_).toNat + j].toNat : Int)) := cell_in b3 _ (by simpa using h1)
    rw [addr_addo]
    refine (Below.cell (B := w.heap.size) ((hb1.alloc hsz1 _)) (p := ⟨p.blk, _, none⟩) hbl).trans (h2.trans ?_)
    simp [readL]
  clear b3 b4 b5
  go_wp2_with (go_at_call 30; refine (get8 (readL p a 8) _ hlen).mono ?_; rintro e w2 ⟨hb2, rfl⟩)
  go_ret2
  exact ⟨below_call (hb1.alloc hsz1 _) hb2, rfl⟩
end Go.Proofs.YtkbilipgidcgeaaGreatDoor

namespace Go.Proofs.YtkbilipgidcgeaaGreatDoor.Tiny
open Go.RowKit Go.ChangeMaps
attribute [local go_sem] ext_cell ext_frozen

/-- What an element of the hits is. -/
theorem hit_facts {ps : List Part} {ad m : Int} (hA : AreasOk ps) (h0 : 0 ≤ ad) (h8 : ad % 8 = 0) {e : Int × List UInt8} (he : e ∈ hitsL ps ad m) :
    ∃ k, ∃ hk : LastAt ps e.1 k, e.1 - (ps[k]'hk.lt).at_ + 8 ≤ (ps[k]'hk.lt).size ∧ e.1.tmod 8 = 0 ∧ e.2 = readL (ps[k]'hk.lt) e.1 8 ∧ ad ≤ e.1 ∧ e.1 + 8 ≤ ad + m := by
  obtain ⟨p, hp, he⟩ := List.mem_flatMap.1 he
  obtain ⟨k, hk, rfl⟩ := List.getElem_of_mem hp
  obtain ⟨i, hi, rfl⟩ := List.mem_map.1 he
  rw [List.mem_range] at hi
  obtain ⟨p0, p1, p2, p3, p4⟩ := hA.each _ (List.getElem_mem hk)
  have b1 : max ad ps[k].at_ % 8 = 0 ∧ ps[k].at_ ≤ max ad ps[k].at_ ∧ ad ≤ max ad ps[k].at_ := by omega
  have b2 : min (ad + m) (ps[k].at_ + ps[k].size) ≤ ad + m ∧ min (ad + m) (ps[k].at_ + ps[k].size) ≤ ps[k].at_ + ps[k].size := by omega
  obtain ⟨lo, hlo⟩ : ∃ lo, lo = max ad ps[k].at_ := ⟨_, rfl⟩
  obtain ⟨hh, hhi⟩ : ∃ hh, hh = min (ad + m) (ps[k].at_ + ps[k].size) := ⟨_, rfl⟩
  rw [← hlo] at b1
  rw [← hhi] at b2
  simp only [← hlo, ← hhi] at hi ⊢
  obtain ⟨b11, b12, b13⟩ := b1
  obtain ⟨b21, b22⟩ := b2
  have hi8 : 8 * (i : Int) + 8 ≤ hh - lo := by omega
  refine ⟨k, ⟨hk, by omega, fun j hj hkj => Int.lt_of_lt_of_le (show lo + 8 * (i : Int) < ps[k].at_ + ps[k].size by omega) (hA.apart k j hk hj hkj)⟩, by omega, ?_, rfl, by omega, by omega⟩
  rw [Int.tmod_eq_emod_of_nonneg (by omega)]
  omega

/-- The words of hits. -/
def hitW (e : Int × List UInt8) : Int := sgn64 (leN e.2)

set_option maxRecDepth 100000 in
theorem never_any (a : Int) (w : World) : Calls Tryz.prog 45 #[.int .i64 a] w fun e w' => e = .returned (.bool false) ∧ w' = w := by
  go_enter Tryz.func45, Tryz.ntmps45
  go_wp2
  go_ret
  exact ⟨rfl, rfl⟩

theorem sgn64_range (n : Int) : -9223372036854775808 ≤ sgn64 n ∧ sgn64 n ≤ 9223372036854775807 := by
  unfold sgn64; split <;> omega
theorem keeps_only {w w' : World} {b : Nat} (hb : MapB w b) (ho : Only (· = b) w w') : KeepsT w w' := ⟨ho.size, fun _ _ _ _ h _ => ho.kept h (cells_ne h hb)⟩
theorem wf_int {n : Int} (h : -9223372036854775808 ≤ n ∧ n ≤ 9223372036854775807) : (Lit.int .i64 n).wf = true := by
  simp [Lit.wf, IntKind.min, IntKind.max, IntKind.signed, IntKind.bits]; omega
end Go.Proofs.YtkbilipgidcgeaaGreatDoor.Tiny

namespace Go.Proofs.YtkbilipgidcgeaaGreatDoor
open Go.RowKit

/-- The operation that writes. -/
def opWrite (X : Nat → Prop) (P : Program) (o : Oper) (a : Act) (w : World) (K : Value → World → Prop) : Prop := ∃ v w', (execOp a.eval o).run P w = .ok (.value v) w' ∧ Only X w w' ∧ K v w'
theorem opWrite_wp {X : Nat → Prop} {P : Program} {o : Oper} {a : Act} {w : World} {K : Value → World → Prop} {K' : Act → World → Prop} {Q : Exit → Act → World → Prop}
    (h : opWrite X P o a w K) (hK : ∀ v w', Only X w w' → K v w' → K' (a.put o.dst v) w') : o.wp P a w K' Q := by
  obtain ⟨v, w', he, hb, hk⟩ := h
  unfold Oper.wp
  rw [he]
  exact hK v w' hb hk
theorem getD_set_true' {listed : Array Bool} {i : Nat} (h : i < listed.size) : (listed.setIfInBounds i true).getD i false = true := by simp [h]

section
variable {P : Program} {l : List Oper} {m n : Nat} {slots : Nat → List Tmp}
/-- What is known while the operations come up. -/
structure GrowInvW (X : Nat → Prop) (p : Nat) (l : List Oper) (m : Nat) (slots : Nat → List Tmp) (fresh : Nat → Bool) (S : Nat → List Value → World → Prop) (a0 : Act) (W : World) (listed : Array Bool) (a : Act) (w : World) : Prop where
  size : listed.size = l.length
  defers : a.defers = a0.defers
  width : a.tmps.size = a0.tmps.size
  below : Only X W w
  pre : listed.getD p false = false → Below W.heap.size W w
  frame : ∀ s, (∀ i, i < m → dstOf l i ≠ s) → a.tmps.getD s undef = a0.tmps.getD s undef
  holds : ∀ i, i < m → listed.getD i false = true → S i ((slots i).map fun s => a.tmps.getD s undef) w
  new : ∀ i, i < m → listed.getD i false = true → fresh i = true → ∀ b, blkOf (a.tmps.getD (dstOf l i) undef) = some b → W.heap.size ≤ b ∧ b < w.heap.size
  ne : ∀ i j, i < m → j < m → listed.getD i false = true → listed.getD j false = true → fresh i = true → fresh j = true → i ≠ j →
    ∀ b, blkOf (a.tmps.getD (dstOf l i) undef) = some b → blkOf (a.tmps.getD (dstOf l j) undef) ≠ some b

theorem GrowInvW.step {X : Nat → Prop} {p : Nat} {fresh : Nat → Bool} {S : Nat → List Value → World → Prop} {a0 a : Act} {W w w' : World} {listed : Array Bool} {i : Nat} {o : Oper} {v : Value} (G : GrowOk l m a0.tmps.size slots)
    (hgrow : ∀ j, j < m → ∀ vs w w', Below w.heap.size w w' → S j vs w → S j vs w') (hgrowX : ∀ j, j < m → j ≠ p → ∀ vs w w', W.heap.size ≤ w.heap.size → Only X w w' → S j vs w → S j vs w')
    (hI : GrowInvW X p l m slots fresh S a0 W listed a w) (hi : i < m) (ho : l[i]? = some o) (hun : listed.getD i true = false)
    (hall : ∀ j o', j < m → l[j]? = some o' → waitsFor o' i = true → listed.getD j false = false)
    (hb : Only X w w') (hbB : i ≠ p → Below w.heap.size w w') (hS : S i (v :: (slots i).tail.map fun s => a.tmps.getD s undef) w')
    (hf : fresh i = true → ∀ b, blkOf v = some b → w.heap.size ≤ b ∧ b < w'.heap.size) :
    GrowInvW X p l m slots fresh S a0 W (listed.setIfInBounds i true) (a.put o.dst v) w' := by
  obtain ⟨hg, hd, hdn, hhead, hnot⟩ := G.guard i o hi ho
  have hil : i < l.length := (List.getElem?_eq_some_iff.1 ho).1
  have hda : dstOf l i < a.tmps.size := by rw [hI.width]; exact hdn
  have hv : ∀ s, (a.put o.dst v).tmps.getD s undef = if s = dstOf l i then v else a.tmps.getD s undef := fun s => by rw [hd]; exact getD_put hda
  have other : ∀ j, j < m → j ≠ i → listed.getD j false = true → dstOf l i ∉ slots j := fun j hj hne hl hmem => by
    have hjl : j < l.length := Nat.lt_of_lt_of_le hj G.le
    have hw := G.apart j l[j] i hj hi (by simp [hjl]) (Ne.symm hne) hmem
    have := hall j l[j] hj (by simp [hjl]) hw
    rw [hl] at this; cases this
  have hsz : W.heap.size ≤ w.heap.size := hI.below.size
  have old : ∀ j, j < m → j ≠ i → (listed.setIfInBounds i true).getD j false = true → listed.getD j false = true := fun j hj hne h => by
    rwa [getD_set_ne false (Ne.symm hne)] at h
  have own : ∀ j, j < m → j ≠ i → listed.getD j false = true → (a.put o.dst v).tmps.getD (dstOf l j) undef = a.tmps.getD (dstOf l j) undef := fun j hj hne hl => by
    have hjl : j < l.length := Nat.lt_of_lt_of_le hj G.le
    have hh := (G.guard j l[j] hj (by simp [hjl])).2.2.2.1
    have hm' : dstOf l j ∈ slots j := List.mem_of_mem_head? (by rw [hh]; rfl)
    rw [hv, if_neg]
    intro e
    rw [e] at hm'
    exact other j hj hne hl hm'
  refine ⟨by simpa using hI.size, ?_, ?_, hI.below.trans hb, fun hp => ?_, ?_, ?_, ?_, ?_⟩
  · rw [← hI.defers]; cases o.dst <;> rfl
  · rw [← hI.width]; cases o.dst <;> simp [Act.put]
  · have hip : i ≠ p := fun e => by subst e; rw [getD_set_true' (by rw [hI.size]; exact hil)] at hp; cases hp
    rw [getD_set_ne false hip] at hp
    exact (hI.pre hp).trans ((hbB hip).mono hsz)
  · intro s hs
    rw [hv, if_neg (Ne.symm (hs i hi)), hI.frame s hs]
  · intro j hj hl
    by_cases hne : j = i
    · subst hne
      have e : (slots j).map (fun s => (a.put o.dst v).tmps.getD s undef) = v :: (slots j).tail.map fun s => a.tmps.getD s undef := by
        obtain ⟨d, t, hdt⟩ : ∃ d t, slots j = d :: t := by
          cases hc : slots j with
          | nil => rw [hc] at hhead; cases hhead
          | cons d t => exact ⟨d, t, rfl⟩
        rw [hdt] at hhead hnot ⊢
        simp only [List.head?_cons, Option.some.injEq, List.tail_cons] at hhead hnot
        subst hhead
        simp only [List.map_cons, List.tail_cons, hv, if_true]
        congr 1
        apply List.map_congr_left
        intro s hs
        rw [if_neg (fun e => hnot (by rw [← e]; exact hs))]
      rw [e]; exact hS
    · have hl' := old j hj hne hl
      have e : (slots j).map (fun s => (a.put o.dst v).tmps.getD s undef) = (slots j).map fun s => a.tmps.getD s undef := by
        apply List.map_congr_left
        intro s hs
        rw [hv, if_neg]
        intro e; subst e
        exact other j hj hne hl' hs
      rw [e]
      by_cases hip : i = p
      · exact hgrowX j hj (fun e => hne (e.trans hip.symm)) _ _ _ hsz hb (hI.holds j hj hl')
      · exact hgrow j hj _ _ _ (hbB hip) (hI.holds j hj hl')
  · intro j hj hl hfr b hbk
    by_cases hne : j = i
    · subst hne
      rw [hv, if_pos rfl] at hbk
      have := hf hfr b hbk
      omega
    · have hl' := old j hj hne hl
      rw [own j hj hne hl'] at hbk
      have := hI.new j hj hl' hfr b hbk
      have := hb.size
      omega
  · intro j k hj hk hlj hlk hfj hfk hjk b hbj
    by_cases hji : j = i
    · subst hji
      rw [hv, if_pos rfl] at hbj
      have h1 := hf hfj b hbj
      have hlk' := old k hk (Ne.symm hjk) hlk
      rw [own k hk (Ne.symm hjk) hlk']
      intro e
      have := hI.new k hk hlk' hfk b e
      omega
    · have hlj' := old j hj hji hlj
      rw [own j hj hji hlj'] at hbj
      by_cases hki : k = i
      · subst hki
        rw [hv, if_pos rfl]
        intro e
        have h1 := hf hfk b e
        have := hI.new j hj hlj' hfj b hbj
        omega
      · have hlk' := old k hk hki hlk
        rw [own k hk hki hlk']
        exact hI.ne j k hj hk hlj' hlk' hfj hfk hjk b hbj

/-- The region, whatever order its operations come up in. -/
theorem wp_region_growW (X : Nat → Prop) (p : Nat) {id : Nat} {Q : Exit → Act → World → Prop} {a0 : Act} {w0 : World} (m : Nat) (slots : Nat → List Tmp) (fresh : Nat → Bool) (S : Nat → List Value → World → Prop)
    (hm : P.follows .mixedOrders = true) (hG : growB l m a0.tmps.size slots = true)
    (hgrow : ∀ j, j < m → ∀ vs w w', Below w.heap.size w w' → S j vs w → S j vs w') (hgrowX : ∀ j, j < m → j ≠ p → ∀ vs w w', w0.heap.size ≤ w.heap.size → Only X w w' → S j vs w → S j vs w')
    (hstep : ∀ i o, i < m → i ≠ p → l[i]? = some o → ∀ (a : Act) (w : World), Only X w0 w → (∀ s, (∀ i, i < m → dstOf l i ≠ s) → a.tmps.getD s undef = a0.tmps.getD s undef) →
      (∀ j, j < m → waitsFor o j = true → S j ((slots j).map fun s => a.tmps.getD s undef) w) →
      opGrow P o a w fun v w' => S i (v :: (slots i).tail.map fun s => a.tmps.getD s undef) w' ∧ (fresh i = true → ∀ b, blkOf v = some b → w.heap.size ≤ b ∧ b < w'.heap.size))
    (hwrite : ∀ o, p < m → l[p]? = some o → ∀ (a : Act) (w : World), Below w0.heap.size w0 w → (∀ s, (∀ i, i < m → dstOf l i ≠ s) → a.tmps.getD s undef = a0.tmps.getD s undef) →
      (∀ j, j < m → waitsFor o j = true → S j ((slots j).map fun s => a.tmps.getD s undef) w) →
      opWrite X P o a w fun v w' => S p (v :: (slots p).tail.map fun s => a.tmps.getD s undef) w' ∧ (fresh p = true → ∀ b, blkOf v = some b → w.heap.size ≤ b ∧ b < w'.heap.size))
    (hend : ∀ (f : Tmp → Value) (w : World), Only X w0 w → (∀ i, i < m → S i ((slots i).map f) w) →
      (∀ i, i < m → fresh i = true → ∀ b, blkOf (f (dstOf l i)) = some b → w0.heap.size ≤ b ∧ b < w.heap.size) →
      (∀ i j, i < m → j < m → fresh i = true → fresh j = true → i ≠ j → ∀ b, blkOf (f (dstOf l i)) = some b → blkOf (f (dstOf l j)) ≠ some b) →
      wpList P l.toArray Q (l.drop m) (actOf a0 f ((List.range m).map (dstOf l))) w) :
    (Code.region id l.toArray true).wp P Q a0 w0 := by
  have G := GrowOk.of hG
  refine wp_region_any hm ?_
  have hW : Below w0.heap.size w0 { w0 with drawn := w0.drawn + 1 } := ⟨rfl, rfl, rfl, Nat.le_refl _, fun _ _ => rfl⟩
  have key : ∀ (c : Nat) (listed : Array Bool) (a : Act) (w : World), ((List.range m).filter fun i => listed.getD i false == false).length = c → (∀ i, m ≤ i → listed.getD i false = false) →
      (∀ j o i, l[j]? = some o → listed.getD j false = true → waitsFor o i = true → listed.getD i false = true) →
      GrowInvW X p l m slots fresh S a0 w0 listed a w → wpAny P .any l.toArray Q (c + (l.length - m)) listed a w := by
    intro c
    induction c with
    | zero =>
      intro listed a w hc ht hcl hI
      have hall : ∀ i, i < m → listed.getD i false = true := fun i hi => by
        have h0 := List.eq_nil_of_length_eq_zero hc
        rw [List.filter_eq_nil_iff] at h0
        have := h0 i (List.mem_range.2 hi)
        simpa using this
      rw [Nat.zero_add]
      refine wpAny_tail G (l.length - m) m listed a w (Nat.le_refl _) (by have := G.le; omega) hI.size (fun i _ => ?_) ?_
      · by_cases hi : i < m
        · rw [hall i hi]; simp [hi]
        · rw [ht i (by omega)]; simp [hi]
      · have e : a = actOf a0 (fun s => a.tmps.getD s undef) ((List.range m).map (dstOf l)) := by
          refine act_ext (by rw [(actOf_size _ _ _).2, hI.defers]) (by rw [(actOf_size _ _ _).1, hI.width]) fun s => ?_
          rw [actOf_getD _ _ _ _ (fun d hd => by
            simp only [List.mem_map, List.mem_range] at hd
            obtain ⟨i, hi, rfl⟩ := hd
            have hil : i < l.length := Nat.lt_of_lt_of_le hi G.le
            exact (G.guard i l[i] hi (by simp [hil])).2.2.1)]
          by_cases hs : s ∈ (List.range m).map (dstOf l)
          · rw [if_pos hs]
          · rw [if_neg hs]
            refine hI.frame s fun i hi e => hs ?_
            simp only [List.mem_map, List.mem_range]
            exact ⟨i, hi, e⟩
        rw [e]
        exact hend _ w hI.below (fun i hi => hI.holds i hi (hall i hi)) (fun i hi hf b hb => hI.new i hi (hall i hi) hf b hb) (fun i j hi hj hfi hfj hne b hb => hI.ne i j hi hj (hall i hi) (hall j hj) hfi hfj hne b hb)
    | succ c ih =>
      intro listed a w hc ht hcl hI
      have hone : ∃ i, i < m ∧ listed.getD i false = false := by
        have h0 : ((List.range m).filter fun i => listed.getD i false == false) ≠ [] := by intro e; rw [e] at hc; simp at hc
        obtain ⟨i, hi⟩ := List.exists_mem_of_ne_nil _ h0
        simp only [List.mem_filter, List.mem_range, beq_iff_eq] at hi
        exact ⟨i, hi.1, hi.2⟩
      obtain ⟨i1, hi1, hun1⟩ := hone
      have hlow : ∀ i o, i ∈ Region.ready .any l.toArray listed → l[i]? = some o → i < m := fun i o hi ho => by
        obtain ⟨_, o', ho', hall⟩ := mem_ready.1 hi
        have e : o' = o := by simp at ho'; rw [ho] at ho'; exact (Option.some.inj ho').symm
        subst e
        rcases Nat.lt_or_ge i m with h | h
        · exact h
        · by_cases him : i = m
          · subst him
            have hr := G.tail0 o' i1 hi1 ho
            have := reach_listed hcl l.length i o' ho (fun k hk => waits_listed hk hall) i1 hr
            rw [hun1] at this; cases this
          · have := waits_listed (G.tail i o' (i - 1) (by omega) (by omega) ho (by omega)) hall
            rw [ht (i - 1) (by omega)] at this; cases this
      have hne : Region.ready .any l.toArray listed ≠ [] := by
        have hex : ∃ i, listed.getD i false = false ∧ i < m := ⟨i1, hun1, hi1⟩
        have hmin : ∃ i, (listed.getD i false = false ∧ i < m) ∧ ∀ j, j < i → ¬ (listed.getD j false = false ∧ j < m) := by
          have : ∀ k, ∀ i, i ≤ k → (listed.getD i false = false ∧ i < m) → ∃ i, (listed.getD i false = false ∧ i < m) ∧ ∀ j, j < i → ¬ (listed.getD j false = false ∧ j < m) := by
            intro k
            induction k with
            | zero => intro i hi h; exact ⟨i, h, fun j hj => by omega⟩
            | succ k ihk =>
              intro i hi h
              by_cases hx : ∃ j, j < i ∧ (listed.getD j false = false ∧ j < m)
              · obtain ⟨j, hj, hh⟩ := hx
                exact ihk j (by omega) hh
              · exact ⟨i, h, fun j hj hh => hx ⟨j, hj, hh⟩⟩
          exact this i1 i1 (Nat.le_refl _) ⟨hun1, hi1⟩
        obtain ⟨i, ⟨hun, him⟩, hmi⟩ := hmin
        have hil : i < l.length := Nat.lt_of_lt_of_le him G.le
        intro e
        have : i ∈ Region.ready .any l.toArray listed := mem_ready.2 ⟨by
          have h3 : listed.getD i true = listed.getD i false := by simp [Array.getD, show i < listed.size by rw [hI.size]; exact hil]
          rw [h3, hun], l[i], by simp [hil], fun e he hbd => by
          have h4 := G.low i l[i] (by simp [hil]) e he hbd
          have h5 := hmi e.on h4
          cases hb : listed.getD e.on false with
          | true => rfl
          | false => exact absurd ⟨hb, by omega⟩ h5⟩
        rw [e] at this; cases this
      rw [show c + 1 + (l.length - m) = (c + (l.length - m)) + 1 by omega]
      refine ⟨fun e => absurd e hne, fun i hi => ?_⟩
      obtain ⟨hun, o, ho', hallr⟩ := mem_ready.1 hi
      have ho : l[i]? = some o := by simpa using ho'
      have him := hlow i o hi ho
      have hil : i < l.length := (List.getElem?_eq_some_iff.1 ho).1
      have hunf : listed.getD i false = false := by
        have h3 : listed.getD i true = listed.getD i false := by simp [Array.getD, show i < listed.size by rw [hI.size]; exact hil]
        rw [← h3, hun]
      have hg := (G.guard i o him ho).1
      unfold wpOp
      simp only [ho']
      rw [if_pos (by simp [Region.wanted, hg])]
      have cont : ∀ v w', Only X w w' → (i ≠ p → Below w.heap.size w w') → (S i (v :: (slots i).tail.map fun s => a.tmps.getD s undef) w' ∧ (fresh i = true → ∀ b, blkOf v = some b → w.heap.size ≤ b ∧ b < w'.heap.size)) → wpAny P .any l.toArray Q (c + (l.length - m)) (listed.setIfInBounds i true) (a.put o.dst v) w' := by
        intro v w' hb hbB hh
        refine ih _ _ _ ?_ ?_ ?_ (hI.step G hgrow hgrowX him ho hun (fun j o' hj hjo hw => by
          cases hb' : listed.getD j false with
          | false => rfl
          | true => have := hcl j o' i hjo hb' hw; rw [hunf] at this; cases this) hb hbB hh.1 hh.2)
        · have hset : ∀ k, (listed.setIfInBounds i true).getD k false = if k = i then true else listed.getD k false := fun k => by
            by_cases hk : k = i
            · subst hk; simp [show k < listed.size by rw [hI.size]; exact hil]
            · rw [getD_set_ne false (Ne.symm hk), if_neg hk]
          have e2 : ((List.range m).filter fun k => (listed.setIfInBounds i true).getD k false == false) = ((List.range m).filter fun k => listed.getD k false == false).erase i := by
            rw [List.Nodup.erase_eq_filter (List.Nodup.sublist List.filter_sublist List.nodup_range), List.filter_filter]
            apply List.filter_congr
            intro k _
            rw [hset k]
            by_cases hk : k = i
            · subst hk; simp
            · simp [hk]
          rw [e2, List.length_erase_of_mem (List.mem_filter.2 ⟨List.mem_range.2 him, by rw [hunf]; rfl⟩)]
          omega
        · intro k hk
          rw [getD_set_ne false (by omega)]
          exact ht k hk
        · intro j o' k hjo hl hw
          by_cases hj : j = i
          · subst hj
            rw [ho] at hjo
            cases hjo
            exact getD_set_true (waits_listed hw hallr)
          · rw [getD_set_ne false (Ne.symm hj)] at hl
            exact getD_set_true (hcl j o' k hjo hl hw)
      by_cases hip : i = p
      · subst hip
        exact .inl (opWrite_wp (hwrite o him ho a w (hI.pre hunf) hI.frame (fun j hj hw => hI.holds j hj (waits_listed hw hallr))) fun v w' hb hh => cont v w' hb (fun e => absurd rfl e) hh)
      · exact .inl (opGrow_wp (hstep i o him hip ho a w hI.below hI.frame (fun j hj hw => hI.holds j hj (waits_listed hw hallr))) fun v w' hb hh => cont v w' (Only.of_below hb) (fun _ => hb) hh)
  have e0 : ∀ i, (Array.replicate l.toArray.size false).getD i false = false := fun i => by simp [Array.getD]
  have hc0 : ((List.range m).filter fun i => (Array.replicate l.toArray.size false).getD i false == false).length = m := by
    rw [List.filter_eq_self.2 (fun i _ => by rw [e0]; rfl)]; simp
  have := key m (Array.replicate l.toArray.size false) a0 { w0 with drawn := w0.drawn + 1 } hc0 (fun i _ => e0 i) (fun j o i _ h => by rw [e0] at h; cases h)
    ⟨by simp, rfl, rfl, Only.of_below hW, fun _ => hW, fun _ _ => rfl, fun i _ h => (by rw [e0] at h; cases h), fun i _ h => (by rw [e0] at h; cases h), fun i j _ _ h => (by rw [e0] at h; cases h)⟩
  rw [show m + (l.length - m) = l.toArray.size by simp; have := G.le; omega] at this
  exact this

/-- The operations one by one. -/
def stepsAllW (P : Program) (X : Nat → Prop) (p : Nat) (l : List Oper) (Fs : List Fact) (a0 : Act) (w0 : World) : List Oper → Nat → Prop
  | [], _ => True
  | o :: r, i => (if i = p then (∀ (a : Act) (w : World), Below w0.heap.size w0 w → (∀ s, (∀ i, i < Fs.length → dstOf l i ≠ s) → a.tmps[s]?.getD undef = a0.tmps[s]?.getD undef) →
      (∀ j, j < Fs.length → waitsFor o j = true → (factAt Fs j).says ((slotsOf l Fs j).map fun s => a.tmps[s]?.getD undef) w) →
      opWrite X P o a w fun v w' => (factAt Fs i).says (v :: (factAt Fs i).deps.map fun s => a.tmps[s]?.getD undef) w' ∧ ((factAt Fs i).isNew = true → ∀ b, blkOf v = some b → w.heap.size ≤ b ∧ b < w'.heap.size))
      else (∀ (a : Act) (w : World), Only X w0 w → (∀ s, (∀ i, i < Fs.length → dstOf l i ≠ s) → a.tmps[s]?.getD undef = a0.tmps[s]?.getD undef) →
      (∀ j, j < Fs.length → waitsFor o j = true → (factAt Fs j).says ((slotsOf l Fs j).map fun s => a.tmps[s]?.getD undef) w) →
      opGrow P o a w fun v w' => (factAt Fs i).says (v :: (factAt Fs i).deps.map fun s => a.tmps[s]?.getD undef) w' ∧ ((factAt Fs i).isNew = true → ∀ b, blkOf v = some b → w.heap.size ≤ b ∧ b < w'.heap.size))) ∧
    stepsAllW P X p l Fs a0 w0 r (i + 1)

theorem stepsAllW_get {X : Nat → Prop} {p : Nat} {l : List Oper} {Fs : List Fact} {a0 : Act} {w0 : World} : ∀ (r : List Oper) (k : Nat), stepsAllW P X p l Fs a0 w0 r k → ∀ i o, r[i]? = some o → stepsAllW P X p l Fs a0 w0 [o] (k + i)
  | [], _, _, i, o, h => by simp at h
  | o' :: r, k, hs, 0, o, h => by
    simp only [List.getElem?_cons_zero, Option.some.injEq] at h
    subst h
    exact ⟨hs.1, trivial⟩
  | o' :: r, k, hs, i + 1, o, h => by
    have := stepsAllW_get r (k + 1) hs.2 i o (by simpa using h)
    rw [show k + 1 + i = k + (i + 1) by omega] at this
    exact this

/-- The region, its slots told by a list of facts (one for each operation ahead of the tail). -/
theorem wp_region_factsW (X : Nat → Prop) (p : Nat) {id : Nat} {l : List Oper} {Q : Exit → Act → World → Prop} {a0 : Act} {w0 : World} (Fs : List Fact)
    (hm : P.follows .mixedOrders = true) (hG : growB l Fs.length a0.tmps.size (slotsOf l Fs) = true)
    (hX : ∀ j, j < Fs.length → j ≠ p → ∀ vs w w', w0.heap.size ≤ w.heap.size → Only X w w' → (factAt Fs j).says vs w → (factAt Fs j).says vs w')
    (hstep : stepsAllW P X p l Fs a0 w0 (l.take Fs.length) 0)
    (hend : ∀ (f : Tmp → Value) (w : World), Only X w0 w → (∀ i, i < Fs.length → (factAt Fs i).says ((slotsOf l Fs i).map f) w) →
      wpList P l.toArray Q (l.drop Fs.length) (actOf a0 f ((List.range Fs.length).map (dstOf l))) w) :
    (Code.region id l.toArray true).wp P Q a0 w0 :=
  wp_region_growW X p Fs.length (slotsOf l Fs) (fun i => (factAt Fs i).isNew) (fun i => (factAt Fs i).says) hm hG (fun j _ vs w w' hb h => (factAt Fs j).grow hb h) hX
    (fun i o hi hip ho a w hb hf hd => by
      simp only [Array.getD_eq_getD_getElem?] at hf hd ⊢
      have := (stepsAllW_get (l.take Fs.length) 0 hstep i o (by rw [List.getElem?_take_of_lt hi]; exact ho)).1
      rw [Nat.zero_add, if_neg hip] at this
      simpa only [slotsOf, List.tail_cons] using this a w hb hf hd)
    (fun o hi ho a w hb hf hd => by
      simp only [Array.getD_eq_getD_getElem?] at hf hd ⊢
      have := (stepsAllW_get (l.take Fs.length) 0 hstep p o (by rw [List.getElem?_take_of_lt hi]; exact ho)).1
      rw [Nat.zero_add, if_pos rfl] at this
      simpa only [slotsOf, List.tail_cons] using this a w hb hf hd)
    (fun f w hb hs _ _ => hend f w hb hs)
end
end Go.Proofs.YtkbilipgidcgeaaGreatDoor
