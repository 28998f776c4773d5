/- The example's dump: its data, and what the process holds when it has run. No walk. proc: New, and where its memory and its thread lie (as pnew_fresh, and more: at the merge leave that one out). linchpinlaw45.Two. linchpinlaw45.small. linchpinlaw45.DumpReads returns true. -/
import Derived.Test.YtacaejpamidkcaaGreatDoorR45
set_option linter.unusedVariables false
set_option linter.unusedSimpArgs false
set_option maxRecDepth 100000
set_option maxHeartbeats 8000000
namespace Go.Proofs.YtacaejpamidkcaaGreatDoor
theorem sxq : (∀ {α : Type} (l : List α) (i : Nat) (x : α), l.toArray.setIfInBounds i x = (l.set i x).toArray) ∧ (∀ {α : Type} (x y : α) (l : List α), (x :: l).set 0 y = y :: l) ∧ ∀ {α : Type} (x y : α) (l : List α) (n : Nat), (x :: l).set (n + 1) y = x :: l.set n y := ⟨fun _ _ _ => List.setIfInBounds_toArray .., fun _ _ _ => rfl, fun _ _ _ _ => rfl⟩
namespace Two
open Go.RowKit
def regsI (r : Nat → Int) (pc : Int) : List Int := (List.range 16).map r ++ [pc]
theorem pf_ (r : Nat → Int) (pc : Int) : (regsI r pc).map (Value.int .i64) = cpuL r pc := rfl
def twoD (h S : List UInt8) : Wire.fx_ := ([([116, 119, 111], h, 512, 256, false)], [], [(regsI r2 576, 0, 0, 1024, 1024, [])], [(512, twoL), (1024, S)])
theorem two_val {B : IB} {h S : List UInt8} {am ac ai ad ak ack th ch : Nat} {lo0 : Nat} {w : World} (hv : ViewAt B ⟨h.toArray⟩ twoL S am ai ad ak w) (ht : w.ownsRow lo0 73 22 (.slice (some ⟨th, 0, none⟩) 1 ch) 1 (dtC r2 576)) :
 et_ 0 w (.agg #[.slice (some ⟨am, 0, none⟩) 1 ac, .slice none 0 0, .slice (some ⟨th, 0, none⟩) 1 ch, .slice (some ⟨ak, 0, none⟩) 2 ack]) (twoD h S) := by
 have lt := (ah_ ht).2.1
 refine ⟨_, _, _, _, rfl, .inr ⟨am, 0, ac, rfl, Nat.zero_le _, hv.lm, ?_⟩, .inl ⟨rfl, _, _, rfl⟩, .inr ⟨th, 0, ch, rfl, Nat.zero_le _, lt, ?_⟩, .inr ⟨ak, 0, ack, rfl, Nat.zero_le _, hv.lc, ?_⟩⟩
 · intro i hi
   obtain rfl : i = 0 := by have : i < 1 := hi; omega
   exact ⟨_, rfl, hv.mods⟩
 · intro i hi
   obtain rfl : i = 0 := by have : i < 1 := hi; omega
   refine ⟨dtC r2 576, ⟨.slice none 0 0, ?_, rfl, .inl ⟨rfl, _, _, rfl⟩⟩, fun j u hj => by have := (row_cell ht j hj).1; simpa using this⟩
   unfold dtC; rw [← pf_]; rfl
 · intro i hi
   have : i = 0 ∨ i = 1 := by have : i < 2 := hi; omega
   rcases this with rfl | rfl
   · refine ⟨_, rfl, fun j u hj => ?_⟩
     rcases j with _ | _ | j
     · exact hv.mem 0 u hj
     · exact hv.mem 1 u hj
     · exact absurd hj (by simp)
   · refine ⟨_, rfl, fun j u hj => ?_⟩
     rcases j with _ | _ | j
     · exact hv.mem 2 u hj
     · exact hv.mem 3 u hj
     · exact absurd hj (by simp)
theorem vs_ : Wire.cpuOk (regsI r2 576) := ⟨by unfold Wire.I64; decide +kernel, rfl⟩
theorem two_ok {h S : List UInt8} (hh : h.length = 32) (hS : S.length = 1024) : Wire.er_ (twoD h S) := by
 refine ⟨⟨?_, by show (1 : Nat) ≤ _; decide⟩, ⟨fun _ h => (by cases h), by show (0 : Nat) ≤ _; decide⟩, ⟨?_, by show (1 : Nat) ≤ _; decide⟩, ⟨?_, by show (2 : Nat) ≤ _; decide⟩⟩
 · intro m hm
   obtain rfl := List.mem_singleton.1 hm
   exact ⟨by show (3 : Nat) ≤ _; decide, by show h.length ≤ _; omega, show Wire.I64 512 by unfold Wire.I64; decide, show Wire.I64 256 by unfold Wire.I64; decide, trivial⟩
 · intro m hm
   obtain rfl := List.mem_singleton.1 hm
   exact ⟨vs_, by unfold Wire.I64; decide, by unfold Wire.I64; decide, by unfold Wire.I64; decide, by unfold Wire.I64; decide, fun _ h => (by cases h), by show (0 : Nat) ≤ _; decide⟩
 · intro m hm
   rcases List.mem_cons.1 hm with rfl | hm
   · exact ⟨by unfold Wire.I64; decide, by show twoL.length ≤ _; rw [eh_]; decide⟩
   · obtain rfl := List.mem_singleton.1 hm
     exact ⟨show Wire.I64 1024 by unfold Wire.I64; decide, by show S.length ≤ _; omega⟩
theorem j6_ {n : Int} (h : Wire.I64 n) : (Wire.intL n).length ≤ 10 := b0_ (by have := Wire.qf_ h; omega)
theorem i2_ {l : List UInt8} {k : Nat} (h : l.length = k) (hk : k ≤ 1000000) : (Wire.bm_ l).length ≤ 10 + k := by
 unfold Wire.bm_
 have := b0_ (m := l.length) (by omega)
 rw [List.length_append]
 omega
theorem vt_ : ∀ (c : List Int), (∀ n ∈ c, Wire.I64 n) → (Wire.cpuL c).length ≤ 10 * c.length
 | [], _ => by simp [Wire.cpuL]
 | a :: c, h => by
  have h1 := j6_ (h a (by simp))
  have h2 := vt_ c (fun n hn => h n (by simp [hn]))
  unfold Wire.cpuL at h2 ⊢
  simp only [List.flatMap_cons, List.length_append, List.length_cons]
  omega
theorem two_len {h S : List UInt8} (hh : h.length = 32) (hS : S.length = 1024) : (Wire.cx_ (twoD h S)).length ≤ 34359738368 := by
 have a1 := b0_ (m := 1) (by decide)
 have a0 := b0_ (m := 0) (by decide)
 have a2 := b0_ (m := 2) (by decide)
 have t1 := i2_ (l := [116, 119, 111]) (k := 3) rfl (by decide)
 have t2 := i2_ hh (by decide)
 have t3 := i2_ eh_ (by decide)
 have t4 := i2_ hS (by decide)
 have i0 := j6_ (n := 0) (by unfold Wire.I64; decide)
 have i1 := j6_ (n := 512) (by unfold Wire.I64; decide)
 have i2 := j6_ (n := 256) (by unfold Wire.I64; decide)
 have i3 := j6_ (n := 1024) (by unfold Wire.I64; decide)
 have c1 := vt_ (regsI r2 576) vs_.1
 have c2 : (regsI r2 576).length = 17 := rfl
 unfold Wire.cx_ twoD Wire.bz_ Wire.modL Wire.thrL Wire.chkL Wire.kk_ Wire.bz_
 simp only [List.flatMap_cons, List.flatMap_nil, List.length_append, List.length_cons, List.length_nil, List.append_nil, Nat.zero_add, if_neg (show ¬ false = true from by decide)]
 generalize regsI r2 576 = R at c1 c2 ⊢
 have h1 : (1 : Nat) + 1 = 2 := rfl
 try simp only [h1]
 omega
theorem nm_ : (D2 (List.replicate 1024 0)).length = 1024 := by decide +kernel
theorem vu_ : ((D2 (List.replicate 1024 0)).drop 1008).take 8 = ct_ 536 := by decide +kernel
theorem vv_ : ((D2 (List.replicate 1024 0)).drop 1016).take 8 = ct_ 0 := by decide +kernel
theorem r2_15 : r2 15 = 2032 := by decide
theorem run_at {B : IB} {w W : World} {n : PN} {gz : Nat} (hp : ProcAt B w n) (hs : SpaceAt w n.s (.slice (some ⟨n.g, 0, none⟩) 2 n.cap) [fm_ twoL n.b1, jm_ n.b3]) (hb : Below w.heap.size w W)
 (hz : W.heap[gz]? = some (.cells #[.int .i64 0, .int .i64 0, .int .i64 0, .int .i64 0] 3 (0, 0))) (hf : Forms W) :
 RunAt n.p n.s n.b n.l n.gt n.ct n.g n.cap n.b1 n.b3 gz (List.replicate 1024 0) r0 0 (.slice (some ⟨n.gc, 0, none⟩) 1 n.cc) W where
 head := at_b hb hp.head
 thread := by
  have := ai_ hp.thread hb
  rw [u2_] at this
  exact this
 space := hs.below hb
 order := hz
 forms := hf
end Two
namespace Two
open Go.RowKit Go.ChangeMaps
attribute [local go_sem] ak_ af_ aq_ be_ bf_ bg_ a6_ a7_ a8_ cb_ run_makeMap
attribute [local irreducible] aa_ modC
attribute [local go_sem] dy_ d4_ ds_ eb_ d5_ d6_ ec_ ed_ ee_ ef_ db_ dc_ dd_ de_ df_ dg_ c1_ c2_ c3_ dh_ di_ c4_ dj_ dk_ dl_ dm_
theorem sk_ (g0 : Nat) (L : List UInt8) (B : IB) (hB : B.bytes = ⟨L.toArray⟩) (hL : L.length = 256) (w : World) (hg : w.heap[g0]? = some (.cells (aa_ B) 52 (0, 0))) (hD : a5_ w B.gd) :
 Calls Tryz.prog 10 #[.slice (some ⟨g0, 0, none⟩) 1 1, .string labS, .bool false] w fun e w' => ∃ n : PN, e = .returned (.tuple #[.pointer (some ⟨n.p, 0, none⟩), .int .i64 0]) ∧ Below w.heap.size w w' ∧ ProcAt B w' n ∧
  SpaceAt w' n.s (.slice (some ⟨n.g, 0, none⟩) 2 n.cap) [fm_ L n.b1, jm_ n.b3] ∧ (∀ x, e1_ n.s (.slice (some ⟨n.g, 0, none⟩) 2 n.cap) [fm_ L n.b1, jm_ n.b3] x → w.heap.size ≤ x) ∧ w.heap.size ≤ n.p ∧ w.heap.size ≤ n.gt := by
 have hsz := gm_ hB hL
 have HB := h3_ hB hL hsz
 have lg0 := lt_of_block hg
 have HG := h1_ hg
 have HD := h1_ hD
 clear hD
 clear hB hL hg hsz
 go_enter Tryz.func10, Tryz.ntmps10
 go_upto_region 4 with (first
  | (go_at_call 31; refine (new_any _).mono ?_; rintro e wz ⟨rfl, rfl⟩)
  | (go_at_call 32; refine (tnew _ _).mono ?_; rintro e wz ⟨rfl, rfl⟩))
 refine ac_ fun V hV => ?_
 have vB : Below w.heap.size w V := by rw [← hV]; go_grown
 have vs : V.heap[w.heap.size]? = some (.cells #[.slice none 0 0] 159 (0, 0)) := by rw [← hV]; (repeat (first | exact block_at (by first | rfl | (simp; done) | (simp; omega)) | refine ae_ ?_))
 have vp : V.heap[w.heap.size + 1]? = some (.cells [.pointer (some ⟨w.heap.size, 0, none⟩), .pointer (some ⟨w.heap.size + 1 + 1 + 3, 0, none⟩), .pointer none, .slice none 0 0, .slice none 0 0, .slice none 0 0, .bool false, .bool false].toArray 117 (0, 0)) := by rw [← hV]; (repeat (first | exact block_at (by first | rfl | (simp; done) | (simp; omega)) | refine ae_ ?_))
 have vmo : V.heap[w.heap.size + 1 + 1]? = some (.map #[] 0) := by rw [← hV]; (repeat (first | exact block_at (by first | rfl | (simp; done) | (simp; omega)) | refine ae_ ?_))
 have vth : V.heap[w.heap.size + 1 + 1 + 1]? = some (.map #[] 0) := by rw [← hV]; (repeat (first | exact block_at (by first | rfl | (simp; done) | (simp; omega)) | refine ae_ ?_))
 have vat : V.heap[w.heap.size + 1 + 1 + 2]? = some (.map #[] 0) := by rw [← hV]; (repeat (first | exact block_at (by first | rfl | (simp; done) | (simp; omega)) | refine ae_ ?_))
 have vb : V.heap[w.heap.size + 1 + 1 + 3]? = some (.cells (cv_ w.heap.size (w.heap.size + 1 + 1) (w.heap.size + 1 + 1 + 1) (w.heap.size + 1 + 1 + 2)).toArray 164 (0, 0)) := by rw [← hV]; (repeat (first | exact block_at (by first | rfl | (simp; done) | (simp; omega)) | refine ae_ ?_))
 have vnm : V.heap[w.heap.size + 1 + 1 + 1 + 1 + 1 + 1]? = some (.map #[] 0) := by rw [← hV]; (repeat (first | exact block_at (by first | rfl | (simp; done) | (simp; omega)) | refine ae_ ?_))
 clear hV
 generalize hnm : w.heap.size + 1 + 1 + 1 + 1 + 1 + 1 = nm at vnm ⊢
 generalize hb : w.heap.size + 1 + 1 + 3 = b at vb vp ⊢
 generalize hat : w.heap.size + 1 + 1 + 2 = at_ at vat vb ⊢
 generalize hth : w.heap.size + 1 + 1 + 1 = th at vth vb ⊢
 generalize hmo : w.heap.size + 1 + 1 = mo at vmo vb ⊢
 generalize hp : w.heap.size + 1 = p at vp ⊢
 have HPN := h1_ (show w.heap.size ≤ p by omega)
 have vg0 := (vB.block _ lg0).trans HG.out
 have lV := vB.size
 have lpV := lt_of_block vp
 have lnV := lt_of_block vnm
 have lgV := lt_of_block vg0
 have HN := h6_ hnm hb hat hth hmo hp
 have HV := h9_ vB vs vp vmo vth vat vb vnm vg0
 clear hnm hb hat hth hmo hp vB vs vp vmo vth vat vb vnm vg0
 go_wp2
 refine wp_loop_rounds 2 ?_
 rw [rounds_succ]
 go_upto_region 9 with (first
  | (refine wpList_load_row rfl 52 (.tmp 36) rfl g0 rfl 52 (aa_ B) (0, 0) _ HV.out.2.2.2.2.2.2.2.2 Tryz.underlying52 rfl (au_ B) ?_)
  | ((with_reducible refine ad_ ?_); refine sr_ rfl rfl (hi := au_ B) (hold := by unfold aa_; rfl) (h1 := eq_ B) (h := ?_); (try simp only [World.setRow_alloc_new]))
  | (refine wpList_load_row rfl 52 (.tmp 11) rfl V.heap.size rfl 52 (aa_ B) (0, 0) _ (heap_alloc_new _ _) Tryz.underlying52 rfl (au_ B) ?_)
  | (go_at_call 33; refine (tq_ B HB.out.2.2 _ (HD.out.below (HV.out.1.alloc HV.out.1.size _))).mono ?_; rintro e w1 ⟨rfl, hb1⟩; have H1 := h1_ hb1; clear hb1))
 have hB1 := aw_ ((Below.refl V.heap.size V).alloc (Nat.le_refl _) _) H1.out
 have ks1 := hB1.size
 have kg1 := at_b hB1 HV.out.2.2.2.2.2.2.2.2
 have kn1 := at_b hB1 HV.out.2.2.2.2.2.2.2.1
 have HK := h3_ hB1 kg1 kn1
 clear hB1 kg1 kn1 H1
 go_wp2
 rw [rounds_succ]
 go_wp2
 refine wp_loop_rounds 2 ?_
 rw [rounds_succ]
 go_upto_region 13 with (first
  | (refine wpList_load_row rfl 52 (.tmp 46) rfl g0 rfl 52 (aa_ B) (0, 0) _ HK.out.2.1 Tryz.underlying52 rfl (au_ B) ?_)
  | ((with_reducible refine ad_ ?_); refine sr_ rfl rfl (hi := au_ B) (hold := by unfold aa_; rfl) (h1 := eq_ B) (h := ?_); (try simp only [World.setRow_alloc_new])))
 refine ac_ fun U hU => ?_
 have uB : Below w1.heap.size w1 U := by rw [← hU]; go_grown
 have ux : U.heap[w1.heap.size]? = some (.cells (aa_ B) 52 (0, 0)) := by rw [← hU]; exact heap_alloc_new _ _
 have lu := lt_of_block ux
 have un := at_b uB HK.out.2.2
 have hl := iu_ (P := Tryz.prog) (key := .string labS) false Tryz.underlying119 un Tryz.underlying9 trivial (mj_ U) rfl
 have hu := g7_ (P := Tryz.prog) (key := .string labS) (val := .bool true) Tryz.underlying119 un Tryz.underlying9 trivial rfl
 simp only [Bool.false_eq_true, if_false] at hl
 obtain ⟨X, hX⟩ : ∃ X, X = setBlock U nm (.map ((#[] : Array MapEntry).push ⟨.string labS, .bool true, 0⟩) (0 + 1)) := ⟨_, rfl⟩
 rw [← hX] at hu
 have uo : Only (· = nm) V X := by rw [hX]; exact (Only.of_below (HK.out.1.trans (uB.mono HK.out.1.size))).setBlk nm _ rfl
 have u0 := al_ (v := .string labS) ux 0 (dy_ B)
 have HU := h1_ uo
 have lux := uo.size
 clear hU hX uB ux un uo HK
 go_wp2
 rw [rounds_succ]
 go_upto_region 17 with fail
 obtain ⟨vB, vs, vp, vmo, vth, vat, vb, vnm, vg0⟩ := HV.out
 obtain ⟨hnm, hb, hat, hth, hmo, hp⟩ := HN.out
 have xs := HU.out.kept vs (by omega)
 have xp := HU.out.kept vp (by omega)
 have xmo := HU.out.kept vmo (by omega)
 have xth := HU.out.kept vth (by omega)
 have xat := HU.out.kept vat (by omega)
 have xb := HU.out.kept vb (by omega)
 have xg := HU.out.kept vg0 (by omega)
 have xB := vB.trans (HU.out.below (B := w.heap.size) vB.size (by intro k hk; omega))
 have HX := h7_ xB xs xp xmo xth xat xb
 clear vB vs vp vmo vth vat vb vnm vg0 hnm hb hat hth hmo hp xB xs xmo xth xat xb hl hu u0 HU HV
 refine wr_ [.pt p 0, .pt p 0, .pt p 0, .pt p 0, .pt w.heap.size 0, .pt p 0, .pt p 0, .pt p 1, .pt b 0, .val (.slice (some ⟨g0, 0, none⟩) 1 1), .val (.bool false), .more (fun v w' => ∃ l st, v = .pointer (some ⟨l, 0, none⟩) ∧ w'.heap[l]? = some (.cells (bj_ w.heap.size b st (.slice none 0 0) (.slice none 0 0)).toArray 167 (0, 0)) ∧ w'.heap[st]? = some (.map #[⟨.string labS, .agg (aa_ B), 0⟩] 1) ∧ X.heap.size ≤ l ∧ X.heap.size ≤ st) (fun v w' w'' hb h => by obtain ⟨l, st, h1, h2, h3, h4⟩ := h; exact ⟨l, st, h1, at_b hb h2, at_b hb h3, h4⟩), .pt p 0, .pt p 2] (by kernel_rfl) (by kernel_rfl) ?_ ?_
 · simp only [ck_, List.take, List.length]
   refine ⟨?_, ?_, ?_, ?_, ?_, ?_, ?_, ?_, ?_, ?_, ?_, ?_, ?_, ?_, ?_⟩
   all_goals first | trivial | (intro a wr hb hf hd)
   all_goals have hf0 : z_ a 0 (.slice (some ⟨g0, 0, none⟩) 1 1) := (hf 0).trans rfl
   all_goals have hf2 : z_ a 2 (.bool false) := (hf 2).trans rfl
   all_goals have hf8 : zp_ a 8 p 0 := (hf 8).trans rfl
   · exact as_ _ rfl ⟨hf8, fun h => by cases h⟩
   · exact as_ _ rfl ⟨hf8, fun h => by cases h⟩
   · have h57 : z_ a 57 _ := hd 1
     exact gp_ (by simp [execOp, h57, go_sem])
   · have h58 : z_ a 58 _ := hd 2
     exact gp_ (by simp [execOp, h58, go_sem])
   · have h59 : z_ a 59 _ := hd 3
     have hc := ab_ (at_b hb xp) 0 (rfl)
     exact gp_ (by simp [execOp, h59, hc, go_sem])
   · exact as_ _ rfl ⟨hf8, fun h => by cases h⟩
   · have h61 : z_ a 61 _ := hd 5
     exact gp_ (by simp [execOp, h61, go_sem])
   · have h62 : z_ a 62 _ := hd 6
     exact gp_ (by simp [execOp, h62, go_sem])
   · have h63 : z_ a 63 _ := hd 7
     have hc := ab_ (at_b hb xp) 1 (rfl)
     exact gp_ (by simp [execOp, h63, hc, go_sem])
   · exact as_ _ rfl ⟨hf0, fun h => by cases h⟩
   · exact as_ _ rfl ⟨hf2, fun h => by cases h⟩
   · have h60 : z_ a 60 _ := hd 4
     have h64 : z_ a 64 _ := hd 8
     have h65 : z_ a 65 _ := hd 9
     have h66 : z_ a 66 _ := hd 10
     refine cu_ (f := 34) (args := #[.pointer (some ⟨w.heap.size, 0, none⟩), .pointer (some ⟨b, 0, none⟩), .slice (some ⟨g0, 0, none⟩) 1 1, .bool false]) (by simp [execOp, h60, h64, h65, h66, go_sem]) ?_
     refine (lnew w.heap.size b g0 B _ (at_b hb xg)).mono ?_
     rintro e w3 ⟨rfl, hb3, hl3, hs3⟩
     exact ⟨_, rfl, hb3, ⟨_, _, rfl, hl3, hs3, by have := hb.size; omega, hb.size⟩, fun h => by cases h⟩
   · have h56 : z_ a 56 _ := hd 0
     exact gp_ (by simp [execOp, h56, go_sem])
   · have h68 : z_ a 68 _ := hd 12
     exact gp_ (by simp [execOp, h68, go_sem])
 · intro fv w2 hb2 hs hn hne
   obtain ⟨l, st, g67, yl, yst, ll, lst⟩ : ∃ l st, fv 67 = .pointer (some ⟨l, 0, none⟩) ∧ w2.heap[l]? = some (.cells (bj_ w.heap.size b st (.slice none 0 0) (.slice none 0 0)).toArray 167 (0, 0)) ∧ w2.heap[st]? = some (.map #[⟨.string labS, .agg (aa_ B), 0⟩] 1) ∧ X.heap.size ≤ l ∧ X.heap.size ≤ st := hs 11 (by simp)
   rw [facv hs [56, 57, 58, 59, 60, 61, 62, 63, 64, 65, 66, 67, 68, 69] (by kernel_rfl)]
   simp only [actG, Act.put, List.drop, List.length, g67, sxq]
   clear hs hn hne g67
   have hx := HX.out
   have lwX := hx.1.size
   have zp := at_b hb2 hx.2.2.1
   have c2 := ab_ zp 2 rfl; have f2 := ag_ zp 2
   have lX2 := hb2.size
   have HZ := h4_ hb2 yl yst zp
   clear hb2 yl yst zp hx xp xg
   go_upto_region 18 with fail
   refine ac_ fun Y hY => ?_
   obtain ⟨hb2, yl, yst, zp⟩ := HZ.out
   obtain ⟨xB, xs, xp, xmo, xth, xat, xb⟩ := HX.out
   obtain ⟨hnm, hb, hat, hth, hmo, hp⟩ := HN.out
   have yv : Only (· = p) w2 Y := by rw [← hY]; exact (Only.refl (· = p) w2).setCell ⟨p, 2, none⟩ _ (.inl rfl)
   have yp : Y.heap[p]? = some (.cells (es_ w.heap.size b l (.slice none 0 0)).toArray 117 (0, 0)) := by rw [← hY]; exact aj_ zp 2 _
   have yB : Below w.heap.size w Y := ((Only.of_below_le (xB.trans (hb2.mono xB.size)) (fun k _ h => h) : Only (fun b => w.heap.size ≤ b) w w2).then yv (by intro k _ h; omega)).below (Nat.le_refl _) (fun k h => h)
   have yo := (Only.of_below (S := (· = p)) hb2).trans yv
   have ys := yo.kept xs (by omega)
   have ymo := yo.kept xmo (by omega)
   have yth := yo.kept xth (by omega)
   have yat := yo.kept xat (by omega)
   have yb := yo.kept xb (by omega)
   have yl' := yv.kept yl (by omega)
   have yst' := yv.kept yst (by omega)
   have ysp : SpaceAt Y w.heap.size (.slice none 0 0) [] := ⟨ys, World.ownsRow_nil _ _ _ _, by simp [on_], by simp [on_]⟩
   have yp' := yp
   unfold es_ at yp'
   have d2 := ab_ yp' 2 rfl
   have lpY := lt_of_block yp
   have lyY := lt_of_block yl'
   have nmt : mo ≠ th := by omega
   have lY := yv.size
   have HY := h10_ yB yp yl' yst' ysp yb ymo yth yat nmt
   clear hb2 yl yst zp xB xs xp xmo xth xat xb yv yp yB yo ys ymo yth yat yb yl' yst' ysp yp' hY HZ HX c2 f2 hnm hb hat hth hmo hp nmt
   go_wp2_with fail
   refine (lstart l w.heap.size b st mo th at_ L B HB.out.1 HB.out.2.1 _ HY.out.2.2.1 HY.out.2.2.2.1 HY.out.2.2.2.2.1 HY.out.2.2.2.2.2.1 HY.out.2.2.2.2.2.2.1 HY.out.2.2.2.2.2.2.2.1 HY.out.2.2.2.2.2.2.2.2.2 (HD.out.below HY.out.1)).mono ?_
   rintro e w3 ⟨rfl, ho3, gm, cm, gq, cq, g, cap, b1, hL3⟩
   obtain ⟨yB, yp, yl, yst, ysp, yb, ymo, yth, yat, nmt⟩ := HY.out
   obtain ⟨hnm, hb, hat, hth, hmo, hp⟩ := HN.out
   have kp := ho3.kept yp (by rintro (h | h | h) <;> omega)
   have kst := ho3.kept yst (by have := cl_ yst yl (by simp); have := cl_ yst ysp.head (by simp); have := cl_ yst yp (by simp); rintro (h | h | h) <;> omega)
   have kb := ho3.kept yb (by rintro (h | h | h) <;> omega)
   have kth := ho3.kept yth (by rintro (h | h | h) <;> omega)
   have kat := ho3.kept yat (by rintro (h | h | h) <;> omega)
   have kB : Below w.heap.size w w3 := ((Only.of_below_le yB (fun k _ h => h) : Only (fun b => w.heap.size ≤ b) w Y).then ho3 (by intro k _ h; omega)).below (Nat.le_refl _) (fun k h => h)
   have l3 := ho3.size
   have ngY := hL3.new0
   have lwY := yB.size
   have nat_ : at_ ≠ th := by omega
   have H3 := h7_ kB kp kst kb kth kat nat_
   have HL3 := h1_ hL3
   clear ho3 hL3 yB yp yl yst ysp yb ymo yth yat nmt hnm hb hat hth hmo hp kp kst kb kth kat kB nat_ HY d2
   go_wp2_with fail
   refine (pspawn p w.heap.size b l mo th at_ g cap b1 L B _ H3.out.2.1 HL3.out.space H3.out.2.2.2.1 HL3.out.known H3.out.2.2.2.2.1 H3.out.2.2.2.2.2.1 H3.out.2.2.2.2.2.2).mono ?_
   rintro e w4 ⟨rfl, ho4, gt, ct, g', cap', b3, hp4, hown4, hth4, hsp4, lg4, lb3⟩
   obtain ⟨kB, kp, kst, kb, kth, kat, nat_⟩ := H3.out
   obtain ⟨hnm, hb, hat, hth, hmo, hp⟩ := HN.out
   have hL3 := HL3.out
   obtain ⟨_, lg3, curg, hg3⟩ := ah_ hL3.space.row
   obtain ⟨lgm3, lgm3', curm, hgm3⟩ := ah_ hL3.mods
   obtain ⟨lgq3, lgq3', curq, hgq3⟩ := ah_ hL3.order
   have nlg := am_ hL3.head hg3 (by decide)
   have nmg := am_ hgm3 hg3 (by decide)
   have nqg := am_ hgq3 hg3 (by decide)
   have nsg := cl_ kst hg3 (by simp)
   have nsp := cl_ kst kp (by simp)
   have nss := cl_ kst hL3.space.head (by simp)
   have nsh := cl_ kst hL3.head (by simp)
   have nst : st ≠ th := by omega
   have qst := ho4.kept kst (by rintro (h | h | h | h) <;> omega)
   have ql := ho4.kept hL3.head (by rintro (h | h | h | h) <;> omega)
   have qb := ho4.kept kb (by rintro (h | h | h | h) <;> omega)
   have qat := ho4.kept kat (by rintro (h | h | h | h) <;> omega)
   have qmo := ho4.kept hL3.known (by rintro (h | h | h | h) <;> omega)
   have qm := ao_ hL3.mods ho4 (by rintro (h | h | h | h) <;> omega)
   have qq := ao_ hL3.order ho4 (by rintro (h | h | h | h) <;> omega)
   have qB : Below w.heap.size w w4 := ((Only.of_below_le kB (fun k _ h => h) : Only (fun b => w.heap.size ≤ b) w w3).then ho4 (by intro k _ h; omega)).below (Nat.le_refl _) (fun k h => h)
   have qp' := hp4
   unfold es_ at qp'
   have d2 := ab_ qp' 2 rfl; have d3 := ab_ qp' 3 rfl
   have l4 := ho4.size
   have lgt := (ah_ hown4).1
   have lgt4 := (ah_ hown4).2.1
   have lp4 := lt_of_block hp4
   have H4 := h12_ qB hp4 ql qm qq qb qmo hth4 qat qst hown4 hsp4
   have nb1 := hL3.new1
   have HFR := h1_ (show ∀ x, e1_ w.heap.size (.slice (some ⟨g', 0, none⟩) 2 cap') [fm_ L b1, jm_ b3] x → w.heap.size ≤ x from by
    rintro x (rfl | h | ⟨q, hq, rfl⟩)
    · exact Nat.le_refl _
    · have h' : g' = x := by simpa [Value.ownBlock] using h
      rcases lg4 with h4 | h4 <;> omega
    · simp only [List.mem_cons, List.not_mem_nil, or_false] at hq
      rcases hq with rfl | rfl
      · show w.heap.size ≤ b1; omega
      · show w.heap.size ≤ b3; omega)
   have HGT := h1_ (show w.heap.size ≤ gt by omega)
   clear nb1 lwY
   clear kB kp kst kb kth kat nat_ hnm hb hat hth hmo hp hL3 lg3 hg3 lgm3 lgm3' hgm3 lgq3 lgq3' hgq3 nlg nmg nqg nsg nsp nss nsh nst qst ql qb qat qmo qm qq qB qp' hp4 hown4 hth4 hsp4 ho4 lg4 H3 HL3
   go_upto_region 26 with (first
    | (go_at_call 37; refine (lmods l w.heap.size b st gm cm (.slice (some ⟨gq, 0, none⟩) 1 cq) B _ H4.out.2.2.1 (ap_ H4.out.2.2.2.1 (Nat.zero_le _))).mono ?_; rintro e w5 ⟨hb5, gx, cx, rfl, hown5⟩
       have d3' := (hb5.cell (p := ⟨p, 3, none⟩) lp4).trans d3
       have lgx := (ah_ hown5).2.1
       have lp5 := Nat.lt_of_lt_of_le lp4 hb5.size
       have H5 := h2_ hb5 hown5; clear hb5 hown5)
    | (refine wpList_load_mid rfl 127 (.tmp 94) rfl gx 0 rfl (modC B 512 1) _ (row_range H5.out.2) Tryz.underlying127 rfl (tv_ B 512 1) ?_)
    | ((with_reducible refine ad_ ?_); refine wpList_store_row rfl 127 _ _ rfl _ _ rfl rfl _ _ (by (repeat (first | assumption | exact heap_alloc_new _ _ | refine ae_ ?_ | refine az_ ?_ | apply setRow_heap | (refine (setRow_other _ _ _ _ ?_).trans ?_; omega)))) (lp_ B 512 1) (by unfold modC aa_; rfl) (tw_ B 512 1) ?_; (try simp only [World.setRow_alloc_new])))
   obtain ⟨hb5, hown5⟩ := H5.out
   refine ac_ fun Z hZ => ?_
   have z5 : Below w5.heap.size w5 Z := by rw [← hZ]; go_grown
   have zx : Z.heap[w5.heap.size]? = some (.cells (modC B 512 1).toArray 127 (0, 0)) := by rw [← hZ]; exact heap_alloc_new _ _
   have zB : Below w4.heap.size w4 Z := hb5.trans (z5.mono hb5.size)
   have zt := ai_ H4.out.2.2.2.2.2.2.2.2.2.2.1 zB
   have lz5 := hb5.size
   have lzx := lt_of_block zx
   have HZ := h2_ zB zx
   clear hb5 hown5 z5 zB hZ H5 d2 d3 d3'
   refine wr_ [.pt gt 0, .pt gt 0, .pt gt 0, .pt gt 19, .pt gt 19, .val (.int .i64 1024), .pt gt 0, .pt gt 0, .pt gt 19, .pt gt 20, .val (.int .i64 1024), .val (.int .i64 2048), .pt gt 0, .pt gt 0, .pt gt 0, .pt gt 15] (by kernel_rfl) (by kernel_rfl) ?_ ?_
   · simp only [ck_, List.take, List.length]
     refine ⟨?_, ?_, ?_, ?_, ?_, ?_, ?_, ?_, ?_, ?_, ?_, ?_, ?_, ?_, ?_, ?_, ?_⟩
     all_goals first | trivial | (intro a wr hb hf hd)
     all_goals have hf19 : zp_ a 19 gt 0 := (hf 19).trans rfl
     · exact as_ _ rfl ⟨hf19, fun h => by cases h⟩
     · exact as_ _ rfl ⟨hf19, fun h => by cases h⟩
     · have h102 : z_ a 102 _ := hd 1
       exact gp_ (by simp [execOp, h102, go_sem])
     · have h103 : z_ a 103 _ := hd 2
       exact gp_ (by simp [execOp, h103, go_sem])
     · have h104 : z_ a 104 _ := hd 3
       exact gp_ (by simp [execOp, h104, go_sem])
     · have h105 : z_ a 105 _ := hd 4
       have hc := (row_cell (ai_ zt hb) 19 (rfl)).1
       exact gp_ (by simp [execOp, h105, hc, go_sem])
     · exact as_ _ rfl ⟨hf19, fun h => by cases h⟩
     · have h107 : z_ a 107 _ := hd 6
       exact gp_ (by simp [execOp, h107, go_sem])
     · have h108 : z_ a 108 _ := hd 7
       exact gp_ (by simp [execOp, h108, go_sem])
     · have h109 : z_ a 109 _ := hd 8
       exact gp_ (by simp [execOp, h109, go_sem])
     · have h110 : z_ a 110 _ := hd 9
       have hc := (row_cell (ai_ zt hb) 20 (rfl)).1
       exact gp_ (by simp [execOp, h110, hc, go_sem])
     · have h106 : z_ a 106 _ := hd 5
       have h111 : z_ a 111 _ := hd 10
       exact av_ (v := .int .i64 2048) (by simp [execOp, h106, h111, go_sem]; try rfl) (Below.refl _ _) ⟨rfl, fun h => by cases h⟩
     · have h101 : z_ a 101 _ := hd 0
       exact gp_ (by simp [execOp, h101, go_sem])
     · have h113 : z_ a 113 _ := hd 12
       exact gp_ (by simp [execOp, h113, go_sem])
     · have h114 : z_ a 114 _ := hd 13
       exact gp_ (by simp [execOp, h114, go_sem])
     · have h115 : z_ a 115 _ := hd 14
       exact gp_ (by simp [execOp, h115, go_sem])
   · intro f26 w6 hb6 hs hn hne
     rw [facv hs [101, 102, 103, 104, 105, 106, 107, 108, 109, 110, 111, 112, 113, 114, 115, 116] (by kernel_rfl)]
     simp only [actG, Act.put, List.drop, List.length, sxq]
     clear hs hn hne
     have yt := ai_ zt hb6
     obtain ⟨c15, f15⟩ := row_cell yt 15 rfl
     have yx := at_b hb6 zx
     have lx6 := lt_of_block yx
     have lt6 := (ah_ yt).2.1
     have ngx : gt ≠ w5.heap.size := by omega
     have H6 := h3_ hb6 yt yx
     clear yt yx hb6 zt zx
     go_upto_region 27 with fail
     refine ac_ fun T hT => ?_
     obtain ⟨hb6, yt, yx⟩ := H6.out
     have tq : Only (· = gt) w6 T := by rw [← hT]; exact (Only.refl (· = gt) w6).setCell ⟨gt, 15, none⟩ _ (.inl rfl)
     have tt : T.ownsRow w3.heap.size 133 23 (.slice (some ⟨gt, 0, none⟩) 1 ct) 1 (dt_ 2048 (.slice none 0 0)) := by rw [← hT]; exact b7_ yt 15 _
     have tx := tq.kept yx (fun h => ngx h.symm)
     have HT := h3_ hb6 tq tt
     clear hb6 yt yx tq hT H6 c15 f15
     refine wr_ [.pt gt 0, .val (.slice none 0 0), .val (.slice none 0 0), .pt w5.heap.size 26, .val (.int .i64 512), .pt w5.heap.size 0, .pt w5.heap.size 16, .val (.int .i64 0), .val (.int .i64 512), .blk (sl 1) (.cells [.int .i64 512].toArray 3 (0, 0)), .more (fun v w' => ∃ g cap, v = .slice (some ⟨g, 0, none⟩) 1 cap ∧ w'.ownsRow T.heap.size 3 1 (.slice (some ⟨g, 0, none⟩) 1 cap) 1 [.int .i64 512]) (fun v w' w'' hb h => by obtain ⟨g, cap, h1, h3⟩ := h; exact ⟨g, cap, h1, ai_ h3 hb⟩), .pt gt 0, .pt gt 21] (by kernel_rfl) (by kernel_rfl) ?_ ?_
     · simp only [ck_, List.take, List.length]
       refine ⟨?_, ?_, ?_, ?_, ?_, ?_, ?_, ?_, ?_, ?_, ?_, ?_, ?_, ?_⟩
       all_goals first | trivial | (intro a wr hb hf hd)
       all_goals have hf14 : z_ a 14 (.slice none 0 0) := (hf 14).trans rfl
       all_goals have hf18 : zp_ a 18 w5.heap.size 0 := (hf 18).trans rfl
       all_goals have hf19 : zp_ a 19 gt 0 := (hf 19).trans rfl
       · exact as_ _ rfl ⟨hf19, fun h => by cases h⟩
       · exact as_ _ rfl ⟨hf14, fun h => by cases h⟩
       · have h118 : z_ a 118 _ := hd 1
         refine cu_ (f := 38) (args := #[.slice none 0 0]) (by simp [execOp, h118, go_sem]) ?_
         refine (hi_ _).mono ?_
         rintro e w3 ⟨rfl, rfl⟩
         exact ⟨_, rfl, Below.refl _ _, rfl, fun h => by cases h⟩
       · exact gp_ (by simp [execOp, hf18, go_sem])
       · have h120 : z_ a 120 _ := hd 3
         have hc := ab_ (at_b hb tx) 26 (f3_ B 512 1)
         exact gp_ (by simp [execOp, h120, hc, go_sem])
       · exact gp_ (by simp [execOp, hf18, go_sem])
       · have h122 : z_ a 122 _ := hd 5
         exact gp_ (by simp [execOp, h122, go_sem])
       · have h123 : z_ a 123 _ := hd 6
         have hc := ab_ (at_b hb tx) 16 (rw_ B 512 1)
         exact gp_ (by simp [execOp, h123, hc, go_sem])
       · have h121 : z_ a 121 _ := hd 4
         have h124 : z_ a 124 _ := hd 7
         exact av_ (v := .int .i64 512) (by simp [execOp, h121, h124, go_sem]; try rfl) (Below.refl _ _) ⟨rfl, fun h => by cases h⟩
       · have h125 : z_ a 125 _ := hd 8
         exact av_ (v := sl 1 wr.heap.size) (by simp [execOp, h125, sl, go_sem]) ((Below.refl _ _).alloc (Nat.le_refl _) (.cells [.int .i64 512].toArray 3)) ⟨⟨_, rfl, heap_alloc_new _ _⟩, fun _ b hb => b2_ hb⟩
       · have h119 : z_ a 119 _ := hd 2
         obtain ⟨q, h126, hq⟩ : ∃ q, a.tmps[(126 : Nat)]?.getD undef = sl 1 q ∧ wr.heap[q]? = some (.cells [.int .i64 512].toArray 3 (0, 0)) := hd 9
         refine ca_ 119 126 38 3 (.int .i64 0) 1 8 rfl Tryz.underlying38 f2_ rfl (by omega) q 1 [.int .i64 512] h119 h126 hq rfl (by simp [Value.oneCell']) (by omega) ?_
         intro cap w' ho hb'
         exact ⟨⟨_, cap, rfl, ap_ ho hb.size⟩, fun h => by cases h⟩
       · have h117 : z_ a 117 _ := hd 0
         exact gp_ (by simp [execOp, h117, go_sem])
       · have h128 : z_ a 128 _ := hd 11
         exact gp_ (by simp [execOp, h128, go_sem])
     · intro f27 w7 hb7 hs hn hne
       obtain ⟨gc, cc, g127, hownc⟩ : ∃ g cap, f27 127 = .slice (some ⟨g, 0, none⟩) 1 cap ∧ w7.ownsRow T.heap.size 3 1 (.slice (some ⟨g, 0, none⟩) 1 cap) 1 [.int .i64 512] := hs 10 (by simp)
       rw [facv hs [117, 118, 119, 120, 121, 122, 123, 124, 125, 126, 127, 128, 129] (by kernel_rfl)]
       simp only [actG, Act.put, List.drop, List.length, g127, sxq]
       clear hs hn hne g127
       have yt := ai_ HT.out.2.2 hb7
       obtain ⟨c21, f21⟩ := row_cell yt 21 rfl
       have lgc := (ah_ hownc).1
       have lt7 := (ah_ yt).2.1
       have H7 := h3_ hb7 yt hownc
       clear hb7 yt hownc tx
       go_wp2
       go_ret2
       obtain ⟨zB, zx⟩ := HZ.out
       obtain ⟨hb6, tq, tt⟩ := HT.out
       obtain ⟨hb7, yt, hownc⟩ := H7.out
       obtain ⟨qB, qp, ql, qm, qq, qb, qmo, qth, qat, qst, qown, qsp⟩ := H4.out
       obtain ⟨_, _, curt, hct⟩ := ah_ qown
       obtain ⟨_, _, curm, hcm⟩ := ah_ qm
       obtain ⟨_, _, curq, hcq⟩ := ah_ qq
       have hs : Only (· = gt) w7 (w7.setCell ⟨gt, 21, none⟩ (.slice (some ⟨gc, 0, none⟩) 1 cc)) := (Only.refl (· = gt) _).setCell _ _ (.inl rfl)
       have a1 : Only (· = gt) w4 (w7.setCell ⟨gt, 21, none⟩ (.slice (some ⟨gc, 0, none⟩) 1 cc)) := (((Only.of_below (zB.trans (hb6.mono zB.size))).trans tq).call hb7).trans hs
       have ngc : ¬ gc = gt := by have := tq.size; omega
       have tt' := b7_ yt 21 (.slice (some ⟨gc, 0, none⟩) 1 cc)
       have lw4 := qB.size
       have lw3 : w.heap.size ≤ gt := by have := (ah_ tt).1; omega
       have hfin : Below w.heap.size w (w7.setCell ⟨gt, 21, none⟩ (.slice (some ⟨gc, 0, none⟩) 1 cc)) := ((Only.of_below_le qB (fun k _ h => h) : Only (fun b => w.heap.size ≤ b) w w4).then a1 (by intro k _ h; omega)).below (Nat.le_refl _) (fun k h => h)
       refine ⟨⟨p, w.heap.size, b, l, st, mo, th, at_, gm, cm, gq, cq, gt, ct, gc, cc, g', cap', b1, b3⟩, rfl, hfin, ?_, ?_, HFR.out, HPN.out, HGT.out⟩
       · exact ⟨a1.kept qp (am_ qp hct (by decide)), a1.kept ql (am_ ql hct (by decide)), ao_ (ap_ qm (Nat.zero_le _)) a1 (am_ hcm hct (by decide)), ao_ (ap_ qq (Nat.zero_le _)) a1 (am_ hcq hct (by decide)),
          a1.kept qb (am_ qb hct (by decide)), a1.kept qmo (cl_ qmo hct (by simp)), a1.kept qth (cl_ qth hct (by simp)), a1.kept qat (cl_ qat hct (by simp)), HD.out.below hfin, a1.kept qst (cl_ qst hct (by simp)),
          ap_ tt' (Nat.zero_le _), ao_ (ap_ hownc (Nat.zero_le _)) hs ngc⟩
       · exact qsp.kept a1 (by rintro k hk rfl; exact qsp.notCells hct (by decide) (by decide) (by decide) hk)
end Two
namespace Two
open Go.RowKit
attribute [local go_sem] ak_ af_
theorem xv_ (n : Nat) (hn : n ≤ 1000000) (w : World) : (Instr.makeSlice 75 (.int .i64 n) (.int .i64 n)).run Tryz.prog w = .ok (.slice (some ⟨w.heap.size, 0, none⟩) n n) (w.alloc (.cells (byteCells (List.replicate n 0)).toArray 5)) := by
 obtain ⟨i0, hi, hz0, hz1, hz2⟩ := info_parts fj_
 have h := run_make (P := Tryz.prog) w 75 5 i0 (.int .u8 0) Tryz.underlying75 hi hz0 .i64 .i64 (n : Int) (n : Int) (by omega) (by omega) (by rw [hz2]; omega) (by omega)
 rw [h, hz1]
 have : madeCells (Value.cells (.int .u8 0)) ((n : Int).toNat * 1) = (byteCells (List.replicate n 0)).toArray := by
  rw [show Value.cells (.int .u8 0) = #[.int .u8 0] from rfl, fu_]
  simp [byteCells]
 rw [this]
 simp
def lab0 (S : ByteArray) : Array Value := #[.string labS, .bool false, .int .i64 256, .int .i64 256, .int .i64 256, .string S, .string ⟨#[]⟩, .int .i64 0, .slice none 0 0, .slice none 0 0, .slice none 0 0, .slice none 0 0, .slice none 0 0, .slice none 0 0, .slice none 0 0, .slice none 0 0,
 .int .i64 0, .slice none 0 0, .slice none 0 0, .slice none 0 0, .slice none 0 0, .slice none 0 0, .slice none 0 0, .slice none 0 0, .slice none 0 0, .slice none 0 0]
theorem vw_ (t : Tmp) (B : ByteArray) (o : Oper) (a : Act) (w : World) (ho : o.op = .build 52 #[(0, .const (.string ⟨#[116, 119, 111]⟩)), (2, .const (.int .i64 256)), (3, .const (.int .i64 256)), (4, .const (.int .i64 256)), (5, .tmp t)]) (h : a.tmps[t]?.getD undef = .string B) :
 (execOp a.eval o).run Tryz.prog w = .ok (.value (.agg (lab0 B))) w := by
 unfold lab0 labS
 simp [execOp, ho, h, go_sem]
theorem vx_ (S : ByteArray) : (Tryz.prog.info? 52).map (·.size) = some (lab0 S).size := by unfold lab0; kernel_rfl
theorem xw_ (S : ByteArray) : (lab0 S).all (·.oneCell') = true := by simp [lab0, Value.oneCell']
theorem xx_ (S : ByteArray) : (lab0 S)[(24 : Nat)]? = some (.slice none 0 0) := by unfold lab0; rfl
theorem nn_ (S : ByteArray) (g : Nat) : (lab0 S).toList.set 24 (.slice (some ⟨g, 0, none⟩) 1 1) = (aa_ ⟨S, g⟩).toList := by unfold lab0 aa_; rfl
theorem ins_len (x : InsR) : (Tryz.prog.info? 105).map (·.size) = some [Value.int .i64 x.op, .int .i64 x.a, .int .i64 x.b, .int .i64 x.c, .int .i64 x.imm].length := by kernel_rfl
def vI : Value → Int
 | .int _ n => n
 | _ => 0
theorem k9_ (a b : List UInt8) : (⟨a.toArray⟩ : ByteArray) ++ ⟨b.toArray⟩ = ⟨(a ++ b).toArray⟩ := by
 apply ByteArray.ext
 simp
theorem two_any (w : World) (hf : Forms w) :
 Calls Tryz.prog 9 #[] w fun e w' => Below w.heap.size w w' ∧ ∃ g, w.heap.size ≤ g ∧ e = .returned (.agg (aa_ ⟨⟨twoL.toArray⟩, g⟩)) ∧ a5_ w' g := by
 have HF := h1_ hf
 clear hf
 go_enter Tryz.func9, Tryz.ntmps9
 go_upto_region 3 with fail
 refine ac_ fun V hV => ?_
 have vB : Below w.heap.size w V := by rw [← hV]; go_grown
 have v0 : ∃ z : Array Value, z.size = 26 ∧ V.heap[w.heap.size]? = some (.cells z 52 (0, 0)) := by rw [← hV]; exact ⟨_, rfl, ae_ (heap_alloc_new _ _)⟩
 have vi : V.heap[w.heap.size + 1]? = some (.cells (ly_ twoI).toArray 105 (0, 0)) := by rw [← hV]; exact heap_alloc2_new _ _ _
 obtain ⟨z, hz, v0⟩ := v0
 have lV := lt_of_block vi
 have HV := h4_ vB v0 vi hz
 clear hV vB v0 vi hz
 go_wp2_with fail
 go_loopw [1, 3] (fun s i wr => ∃ k : Nat, k ≤ 10 ∧ i = .int .i64 k ∧ s = .string ⟨((twoI.take k).flatMap encI).toArray⟩ ∧ Below V.heap.size V wr) (fun _ i _ => 10 - (vI i).toNat)
 case atStart => exact ⟨0, Nat.zero_le _, rfl, rfl, Below.refl _ _⟩
 case round =>
  obtain ⟨k, hk, rfl, rfl, hb⟩ := hrel
  have HB := h1_ hb
  clear hb
  obtain ⟨A, hA⟩ : ∃ A, A = (⟨((twoI.take k).flatMap encI).toArray⟩ : ByteArray) := ⟨_, rfl⟩
  rw [← hA]
  have hAs : A.size = 8 * k := by
   rw [hA]
   show ((twoI.take k).flatMap encI).toArray.size = _
   rw [List.size_toArray, qo_, List.length_take, Nat.min_eq_left (show k ≤ twoI.length from hk)]
  by_cases hlt : k < 10
  · have hlt' : k < twoI.length := hlt
    have htk : (twoI.take (k + 1)).flatMap encI = (twoI.take k).flatMap encI ++ encI twoI[k] := by
     rw [List.take_succ_eq_append_getElem hlt', List.flatMap_append]; simp
    obtain ⟨x, hx⟩ : ∃ x, x = twoI[k] := ⟨_, rfl⟩
    have hr : x.Right := by rw [hx]; exact k4_ _ (List.getElem_mem hlt')
    have hrg : ∀ wr, Below V.heap.size V wr → wr.rangeAt (w.heap.size + 1) (k * 5) [.int .i64 x.op, .int .i64 x.a, .int .i64 x.b, .int .i64 x.c, .int .i64 x.imm] := fun wr hb j u hu => by
     have hj : j < 5 := (List.getElem?_eq_some_iff.1 hu).1
     have h1 := m7_ twoI k hlt' j hj
     rw [← hx] at h1
     exact ab_ ((hb.block _ lV).trans HV.out.2.2.1) (k * 5 + j) (h1.trans hu)
    rw [← hx] at htk
    obtain ⟨Bx, hBx⟩ : ∃ Bx, Bx = (⟨(encI x).toArray⟩ : ByteArray) := ⟨_, rfl⟩
    have hBs : Bx.size = 8 := by rw [hBx]; show (encI x).toArray.size = 8; rw [List.size_toArray, gh_]
    have hsz : ¬ 9223372036854775807 < A.size + Bx.size := by omega
    have hcall : ∀ W : World, Forms W → Calls Tryz.prog 30 #[insV x.op x.a x.b x.c x.imm] W fun e w' => Below W.heap.size W w' ∧ e = .returned (.tuple #[.string Bx, .bool true]) := fun W hW => by
     rw [hBx]; exact m6_ x.op x.a x.b x.c x.imm W hW hr
    have HK := h4_ hA hBx htk hcall
    have HR := h1_ hrg
    clear hA hBx hAs hBs htk hcall hx hrg hr
    go_wp2_with (first
     | (refine wpList_load_mid rfl 105 (.tmp 27) rfl (w.heap.size + 1) (k * 5) rfl [.int .i64 x.op, .int .i64 x.a, .int .i64 x.b, .int .i64 x.c, .int .i64 x.imm] _ (HR.out _ HB.out) Tryz.underlying105 rfl (ins_len x) ?_)
     | (go_at_call 30; refine (HK.out.2.2.2 _ ((HF.out.below HV.out.1).below HB.out)).mono ?_; rintro e w2 ⟨hb2, rfl⟩; have H2 := h1_ hb2; clear hb2))
    go_roundw
    case rel =>
     refine ⟨k + 1, by omega, by go_num, ?_, HB.out.trans (H2.out.mono HB.out.size)⟩
     rw [HK.out.2.2.1, HK.out.1, HK.out.2.1]
     congr 1
     all_goals exact k9_ _ _
    case measure => simp [vI]; omega
  · obtain rfl : k = 10 := by omega
    have hAi : (A.size : Int) = 80 := by omega
    obtain ⟨zs, hzs⟩ : ∃ zs : List UInt8, zs = List.replicate 176 0 := ⟨_, rfl⟩
    have hzl : zs.length = 176 := by rw [hzs, List.length_replicate]
    have hmk : ∀ w : World, (Instr.makeSlice 75 (.int .i64 176) (.int .i64 176)).run Tryz.prog w = .ok (.slice (some ⟨w.heap.size, 0, none⟩) 176 176) (w.alloc (.cells (byteCells zs).toArray 5)) := fun w => by rw [hzs]; exact xv_ 176 (by omega) w
    have hcv := run_convert_bytes_back (P := Tryz.prog) (wr.alloc (.cells (byteCells zs).toArray 5)) 75 9 5 ⟨wr.heap.size, 0, none⟩ 176 zs Tryz.underlying75 Tryz.underlying5 Tryz.underlying9 (fun j hj => by
     rw [hx_]; exact kx_ (heap_alloc_new _ _) j hj)
    obtain ⟨Z, hZ⟩ : ∃ Z, Z = (⟨zs.toArray⟩ : ByteArray) := ⟨_, rfl⟩
    rw [hzl, ← hZ] at hcv
    have hZs : Z.size = 176 := by rw [hZ]; show zs.toArray.size = 176; rw [List.size_toArray, hzl]
    have hsz : ¬ 9223372036854775807 < A.size + Z.size := by omega
    have HZ := h3_ hzs hZ hA
    clear hzs hzl hZ hZs hA hAs
    go_upto_region 9 with (first
     | (refine cf_ rfl (vw_ 41 _ _ _ _ rfl rfl) ?_)
     | ((with_reducible refine ad_ ?_); refine wpList_store_row rfl 52 _ _ rfl _ _ rfl rfl _ _ (heap_alloc2_new _ _ _) (vx_ _) (by unfold lab0; rfl) (xw_ _) ?_; (try simp only [World.setRow_alloc_new]))
     | fail)
    refine ac_ fun U hU => ?_
    have uB : Below wr.heap.size wr U := by rw [← hU]; exact ((((Only.refl (fun k => wr.heap.size ≤ k) wr).alloc _).alloc _).setRow _ _ (.inl (Nat.le_succ _))).below (Nat.le_refl _) (fun k h => h)
    have u3 : U.heap[wr.heap.size + 1]? = some (.cells (lab0 (A ++ Z)) 52 (0, 0)) := by rw [← hU]; exact setRow_heap _ _ _ _ _ _ (heap_alloc2_new _ _ _)
    have v0 := HV.out.2.1
    have u0 := (uB.block _ (lt_of_block (at_b HB.out v0))).trans (at_b HB.out v0)
    have c24 := al_ u3 24 (xx_ _); have f24 := ag_ u3 24
    have lU := lt_of_block u3
    have HU := h3_ uB u3 u0
    clear hU uB u3 u0 v0 hmk hcv
    obtain ⟨Y, hY⟩ : ∃ Y : Array Value, Y = (lab0 (A ++ Z)) := ⟨_, rfl⟩
    go_upto_region 10 with fail
    refine ac_ fun X hX => ?_
    obtain ⟨uB, u3, u0⟩ := HU.out
    have xo : Only (· = wr.heap.size + 1) U X := by rw [← hX]; first | exact ((Only.refl (· = wr.heap.size + 1) U).alloc _).setCell _ _ (.inl rfl) | exact ((Only.refl (· = wr.heap.size + 1) U).setCell _ _ (.inl rfl)).alloc _
    have x3 : X.heap[wr.heap.size + 1]? = some (.cells (aa_ ⟨A ++ Z, U.heap.size⟩) 52 (0, 0)) := by
     rw [← hX]
     have h1 : U.heap[wr.heap.size + 1]? = some (.cells (lab0 (A ++ Z)).toList.toArray 52 (0, 0)) := by simpa using u3
     have h2 := aj_ h1 24 (.slice (some ⟨U.heap.size, 0, none⟩) 1 1)
     rw [nn_] at h2
     first | exact (Below.block ((Below.refl _ _).alloc (Nat.le_refl _) _) _ (lt_of_block h2)).trans (by simpa using h2) | (have h3 := aj_ (show (U.alloc _).heap[wr.heap.size + 1]? = some (.cells (lab0 (A ++ Z)).toList.toArray 52 (0, 0)) from ae_ h1) 24 (.slice (some ⟨U.heap.size, 0, none⟩) 1 1); rw [nn_] at h3; simpa using h3)
    have xd : a5_ X U.heap.size := by
     rw [← hX]
     first | exact heap_alloc_new _ _ | exact block_at (by simp) | (unfold a5_; rw [heap_setCell_other _ _ _ (by simp; omega)]; exact heap_alloc_new _ _)
    have x0 := xo.kept u0 (by have := HB.out.size; have := HV.out.1.size; have := lt_of_block HV.out.2.1; omega)
    have HX := h4_ xo x3 xd x0
    have lX := xo.size
    have lX3 := lt_of_block x3
    have lX0 := lt_of_block x0
    clear hX xo x3 xd x0 uB u3 u0 c24 f24
    go_wp2_with (first
     | (refine wpList_load_row rfl 52 (.tmp 6) rfl _ rfl 52 (aa_ ⟨A ++ Z, U.heap.size⟩) (0, 0) _ HX.out.2.1 Tryz.underlying52 rfl (au_ _) ?_)
     | ((with_reducible refine ad_ ?_); refine wpList_store_row rfl 52 _ _ rfl _ _ rfl rfl _ _ HX.out.2.2.2 (au_ _) (by rw [HV.out.2.2.2]; unfold aa_; rfl) (eq_ _) ?_)
     | fail)
    have e0 : (X.setRow w.heap.size (aa_ ⟨A ++ Z, U.heap.size⟩)).heap[w.heap.size]? = some (.cells (aa_ ⟨A ++ Z, U.heap.size⟩) 52 (0, 0)) := setRow_heap _ _ _ _ _ _ HX.out.2.2.2
    refine bodyPost_ret (da_ rfl _ _ w.heap.size 52 (aa_ ⟨A ++ Z, U.heap.size⟩) (0, 0) _ rfl e0 Tryz.underlying52 rfl (au_ _)) rfl ?_
    have hSZ : A ++ Z = ⟨twoL.toArray⟩ := by rw [HZ.out.2.2, HZ.out.2.1, HZ.out.1, k9_]; rfl
    obtain ⟨xo, x3, xd, x0⟩ := HX.out
    have b1 := HV.out.1.trans (HB.out.mono HV.out.1.size)
    have b2 := b1.trans (HU.out.1.mono b1.size)
    have s1 := b1.size
    have s2 := HU.out.1.size
    have b3 : Only (fun b => w.heap.size ≤ b) w (X.setRow w.heap.size (aa_ ⟨A ++ Z, U.heap.size⟩)) := ((Only.of_below_le b2 (fun k _ h => h) : Only (fun b => w.heap.size ≤ b) w U).then xo (by intro k _ h; omega)).setRow _ _ (.inl (Nat.le_refl _))
    refine ⟨b3.below (Nat.le_refl _) (fun k h => h), U.heap.size, by omega, by rw [hSZ], ?_⟩
    unfold a5_
    rw [setRow_other _ _ _ _ (by omega)]
    exact xd
end Two
namespace Two
open Go.RowKit
attribute [local go_sem] ak_ af_
attribute [local irreducible] aa_ modC cpuL thrG dtC twoL D2 twoD
theorem sl_ {w w1 w2 : World} {S : Nat → Prop} (h : Below w.heap.size w w1) (ho : Only S w1 w2) (hS : ∀ k, S k → w.heap.size ≤ k) : Below w.heap.size w w2 :=
 ((Only.of_below_le h (fun k _ h => h) : Only (fun b => w.heap.size ≤ b) w w1).then ho (fun k _ hk => hS k hk)).below (Nat.le_refl _) (fun k h => h)
theorem pg_ {w : World} {lo : Nat} {g : Nat} {cap : Nat} {T : TypeId} {size : Nat} {cs : List Value} (h : w.ownsRow lo T size (.slice (some ⟨g, 0, none⟩) 1 cap) 1 cs) : w.rangeAt g 0 cs := fun j u hj => by have := (row_cell h j hj).1; simpa using this
theorem xy_ : SmallOk := by
 intro t c w hf hT
 have HF := h2_ hf hT
 clear hf hT
 go_enter Tryz.func4, Tryz.ntmps4
 go_wp2_with fail
 go_at_call 9
 refine (two_any _ HF.out.1).mono ?_
 rintro e w1 ⟨hb1, g, hg, rfl, hd1⟩
 obtain ⟨B, hB⟩ : ∃ B : IB, B = ⟨⟨twoL.toArray⟩, g⟩ := ⟨_, rfl⟩
 rw [← hB]
 have hBb : B.bytes = ⟨twoL.toArray⟩ := by rw [hB]
 have hBs : B.bytes.size ≤ 1000000 := by rw [hBb]; show twoL.toArray.size ≤ _; rw [List.size_toArray, eh_]; decide
 have hBg : w.heap.size ≤ B.gd := by rw [hB]; exact hg
 have hBd : a5_ w1 B.gd := by rw [hB]; exact hd1
 have HB := h3_ hBb hBs hBg
 have H1 := h2_ hb1 hBd
 clear hB hBb hBs hBg hBd hb1 hd1 hg
 go_upto_region 2 with ((with_reducible refine ad_ ?_); refine wpList_store_row rfl 52 _ _ rfl _ _ rfl rfl _ _ (heap_alloc_new _ _) (au_ B) (by unfold aa_; rfl) (eq_ B) ?_; (try simp only [World.setRow_alloc_new]))
 refine ac_ fun V hV => ?_
 have vB : Below w1.heap.size w1 V := by rw [← hV]; go_grown
 have v1 : V.heap[w1.heap.size]? = some (.cells (aa_ B) 52 (0, 0)) := by rw [← hV]; exact heap_alloc_new _ _
 have lV := lt_of_block v1
 have HV := h3_ (H1.out.1.trans (vB.mono H1.out.1.size)) v1 (H1.out.2.below vB)
 have l1 := H1.out.1.size
 clear hV vB v1 H1
 go_wp2_with (first
  | (refine wpList_load_row rfl 52 (.tmp 1) rfl w1.heap.size rfl 52 (aa_ B) (0, 0) _ HV.out.2.1 Tryz.underlying52 rfl (au_ B) ?_)
  | (refine cf_ rfl (fy_ 11 B _ _ _ rfl rfl) ?_))
 refine (sk_ V.heap.size twoL B HB.out.1 eh_ _ (heap_alloc_new _ _) (HV.out.2.2.below ((Below.refl _ _).alloc (Nat.le_refl _) _))).mono ?_
 rintro e w2 ⟨n, rfl, hb2, hp, hsp, hft, hnp, hgt⟩
 have lV2 := (HV.out.1).size
 have y2 : Below w.heap.size w w2 := HV.out.1.trans (((Below.refl V.heap.size V).alloc (Nat.le_refl _) (.cells (aa_ B) 52)).trans (hb2.mono (by simp)) |>.mono lV2)
 have yv : Below V.heap.size V w2 := ((Below.refl V.heap.size V).alloc (Nat.le_refl _) (.cells (aa_ B) 52)).trans (hb2.mono (by simp))
 have l0 : 0 < w.heap.size := HF.out.1.pos
 have hsz : (V.alloc (.cells (aa_ B) 52)).heap.size = V.heap.size + 1 := by simp
 rw [hsz] at hnp hgt
 have hb3 : V.heap.size + 1 ≤ n.b3 := by rw [← hsz]; exact hft n.b3 (.inr (.inr ⟨jm_ n.b3, by simp, rfl⟩))
 have k1 := at_b yv HV.out.2.1
 have H2 := h5_ y2 hp hsp k1 (HV.out.2.2.below yv)
 have lk1 := lt_of_block k1
 clear hb2 hp hsp hft y2 yv k1 HV hsz
 go_wp2_with fail
 have ha : Below w2.heap.size w2 (w2.alloc (.cells #[.int .i64 0, .int .i64 0, .int .i64 0, .int .i64 0] 3)) := (Below.refl _ _).alloc (Nat.le_refl _) _
 refine (prun n.p n.s n.b n.l n.gt n.ct n.gc n.cc n.g n.cap n.b1 n.b3 w2.heap.size (List.replicate 1024 0) (by omega) (by omega) _ (run_at H2.out.2.1 H2.out.2.2.1 ha (heap_alloc_new _ _) ((HF.out.1.below H2.out.1).below ha)) (ai_ H2.out.2.1.calls ha)).mono ?_
 rintro e w3 ⟨rfl, ho3, A, cA, hR⟩
 obtain ⟨b2, hp, hsp, k1, hbd⟩ := H2.out
 obtain ⟨_, _, curt, hct⟩ := ah_ hp.thread
 obtain ⟨_, _, curb, hcb, _, _⟩ := hsp.bytes.2 (jm_ n.b3) (by simp)
 obtain ⟨_, _, curm, hcm⟩ := ah_ hp.mods
 have nl1 : n.l ≠ n.b3 := am_ hp.load hcb (by decide)
 have nl2 : n.l ≠ n.gt := am_ hp.load hct (by decide)
 have nm1 : n.gm ≠ n.b3 := am_ hcm hcb (by decide)
 have nm2 : n.gm ≠ n.gt := am_ hcm hct (by decide)
 have nd1 : B.gd ≠ n.b3 := am_ hbd hcb (by decide)
 have nd2 : B.gd ≠ n.gt := am_ hbd hct (by decide)
 have b3a : Below w.heap.size w (w2.alloc (.cells #[.int .i64 0, .int .i64 0, .int .i64 0, .int .i64 0] 3)) := b2.trans (ha.mono b2.size)
 have b3 : Below w.heap.size w w3 := sl_ b3a ho3 (by rintro k (h | h) <;> omega)
 have q1 := ho3.kept (at_b ha k1) (by rintro (h | h) <;> omega)
 have ql := ho3.kept (at_b ha hp.load) (by rintro (h | h) <;> omega)
 have qm := ao_ (ai_ hp.mods ha) ho3 (by rintro (h | h) <;> omega)
 have qd : a5_ w3 B.gd := ho3.kept (hbd.below ha) (by rintro (h | h) <;> omega)
 have lq1 := lt_of_block q1
 have H3 := h6_ b3 q1 ql qm qd hR
 clear b2 hp hsp k1 hbd hct hcb hcm b3a b3 q1 ql qm qd hR ho3 ha H2 nl1 nl2 nm1 nm2 nd1 nd2
 go_wp2_with fail
 refine (vtake t c n.p n.s n.b n.l n.gt n.ct n.g n.cap n.b1 n.b3 w2.heap.size n.st n.gm n.cm n.s n.b (D2 (List.replicate 1024 0)) nm_ r2 576 A cA (.slice (some ⟨n.gq, 0, none⟩) 1 n.cq) B HB.out.2.1 _ H3.out.2.2.2.2.2 H3.out.2.2.1 H3.out.2.2.2.1 H3.out.2.2.2.2.1 (HF.out.2.below H3.out.1)).mono ?_
 rintro e w4 ⟨am, ac, ai, ad, ak, ack, th, ch, rfl, hv, ht, hb4⟩
 have b4 := H3.out.1.trans (hb4.mono H3.out.1.size)
 have q1 := at_b hb4 H3.out.2.1
 obtain ⟨hh, hH⟩ : ∃ hh, hh = Dig.sumL t c (imgL B) := ⟨_, rfl⟩
 have hhl : hh.length = 32 := by rw [hH]; exact Dig.o6_ _ _ _
 obtain ⟨SS, hSS⟩ : ∃ SS, SS = D2 (List.replicate 1024 0) := ⟨_, rfl⟩
 have hs0 : SS.length = 1024 := by rw [hSS]; exact nm_
 have hs1 : (SS.drop 1008).take 8 = ct_ 536 := by rw [hSS]; exact vu_
 have hs2 : (SS.drop 1016).take 8 = ct_ 0 := by rw [hSS]; exact vv_
 rw [← hSS, ← hH] at hv
 have hD := two_val (ac := ac) (ack := ack) hv ht
 have hok := two_ok hhl hs0
 have hln := two_len hhl hs0
 have lq1 := lt_of_block q1
 have HD := h7_ hok hln hH hhl hs0 hs1 hs2
 have H4 := h5_ b4 q1 hv ht hD
 clear hb4 b4 q1 hv ht hD hok hln hH hhl hs0 hs1 hs2 hSS H3
 go_upto_region 7 with ((with_reducible refine ad_ ?_); refine wpList_store_row rfl 27 _ _ rfl _ _ rfl rfl _ _ (heap_alloc_new _ _) (by kernel_rfl) rfl (by simp [Value.oneCell']) ?_; (try simp only [World.setRow_alloc_new]))
 refine ac_ fun X hX => ?_
 have xB : Below w4.heap.size w4 X := by rw [← hX]; go_grown
 have x4 : X.heap[w4.heap.size]? = some (.cells #[.slice (some ⟨am, 0, none⟩) 1 ac, .slice none 0 0, .slice (some ⟨th, 0, none⟩) 1 ch, .slice (some ⟨ak, 0, none⟩) 2 ack] 27 (0, 0)) := by rw [← hX]; exact heap_alloc_new _ _
 have q1 := at_b xB H4.out.2.1
 have lq1 := lt_of_block q1
 have lx4 := lt_of_block x4
 have H5 := h6_ (H4.out.1.trans (xB.mono H4.out.1.size)) q1 (H4.out.2.2.1.below xB) (ai_ H4.out.2.2.2.1 xB) (H4.out.2.2.2.2.below xB) x4
 clear hX xB x4 q1 H4
 go_wp2_with (refine wpList_load_row rfl 27 (.tmp 4) rfl w4.heap.size rfl 27 #[.slice (some ⟨am, 0, none⟩) 1 ac, .slice none 0 0, .slice (some ⟨th, 0, none⟩) 1 ch, .slice (some ⟨ak, 0, none⟩) 2 ack] (0, 0) _ H5.out.2.2.2.2.2 Tryz.underlying27 rfl (by kernel_rfl) ?_)
 refine (j5_ (twoD hh SS) HD.out.1 HD.out.2.1 0 _ _ H5.out.2.2.2.2.1).mono ?_
 rintro e w5 ⟨hb5, rfl⟩
 go_wp2_with fail
 refine (q7_ (twoD hh SS) HD.out.1 HD.out.2.1 _).mono ?_
 rintro e w6 ⟨hb6, x, rfl, hx⟩
 obtain ⟨m1, m2, m3, n1, n2, n3, o1, o2, o3, p1, p2, p3, hxa⟩ := hx.agg
 subst hxa
 have hb56 := hb5.trans (hb6.mono hb5.size)
 have b6 := H5.out.1.trans (hb56.mono H5.out.1.size)
 have q1 := at_b hb56 H5.out.2.1
 have q4 := at_b hb56 H5.out.2.2.2.2.2
 have lq1 := lt_of_block q1
 have lq4 := lt_of_block q4
 have H6 := h7_ b6 q1 q4 (H5.out.2.2.1.below hb56) (ai_ H5.out.2.2.2.1 hb56) (H5.out.2.2.2.2.1.below hb56) (hx.lower (Nat.zero_le _))
 clear hb5 hb6 hb56 hx b6 q1 q4 H5
 go_upto_region 8 with ((with_reducible refine ad_ ?_); refine wpList_store_row rfl 27 _ _ rfl _ _ rfl rfl _ _ (heap_alloc_new _ _) (by kernel_rfl) rfl (by simp [Value.oneCell']) ?_; (try simp only [World.setRow_alloc_new]))
 refine ac_ fun Y hY => ?_
 have yB : Below w6.heap.size w6 Y := by rw [← hY]; go_grown
 have y5 : Y.heap[w6.heap.size]? = some (.cells #[.slice m1 m2 m3, .slice n1 n2 n3, .slice o1 o2 o3, .slice p1 p2 p3] 27 (0, 0)) := by rw [← hY]; exact heap_alloc_new _ _
 have q1 := at_b yB H6.out.2.1
 have q4 := at_b yB H6.out.2.2.1
 have lq1 := lt_of_block q1
 have lq4 := lt_of_block q4
 have ly5 := lt_of_block y5
 have H7 := h8_ (H6.out.1.trans (yB.mono H6.out.1.size)) q1 q4 (H6.out.2.2.2.1.below yB) (ai_ H6.out.2.2.2.2.1 yB) (H6.out.2.2.2.2.2.1.below yB) (H6.out.2.2.2.2.2.2.below yB) y5
 clear hY yB y5 q1 q4 H6
 go_wp2_with (first
  | (refine wpList_load_row rfl 27 (.tmp 4) rfl w4.heap.size rfl 27 #[.slice (some ⟨am, 0, none⟩) 1 ac, .slice none 0 0, .slice (some ⟨th, 0, none⟩) 1 ch, .slice (some ⟨ak, 0, none⟩) 2 ack] (0, 0) _ H7.out.2.2.1 Tryz.underlying27 rfl (by kernel_rfl) ?_)
  | (refine wpList_load_row rfl 52 (.tmp 1) rfl w1.heap.size rfl 52 (aa_ B) (0, 0) _ H7.out.2.1 Tryz.underlying52 rfl (au_ B) ?_)
  | (refine cf_ rfl (fy_ 34 B _ _ _ rfl rfl) ?_))
 have ha : Below Y.heap.size Y (Y.alloc (.cells (aa_ B) 52)) := (Below.refl _ _).alloc (Nat.le_refl _) _
 refine (pe_ t c am ac Y.heap.size 1 ak ack th ch B HB.out.2.1 twoL SS eh_ HD.out.2.2.2.2.1 HD.out.2.2.2.2.2.1 HD.out.2.2.2.2.2.2 r2 r2_15 _ ((HF.out.2.below H7.out.1).below ha)
  (by rw [← HD.out.2.2.1]; exact (H7.out.2.2.2.1.below ha).mods) (H7.out.2.2.2.1.below ha).mem (fun j u hj => by rw [Nat.zero_add]; exact al_ (heap_alloc_new Y _) j (by rw [← Array.getElem?_toList]; exact hj)) (pg_ (ai_ H7.out.2.2.2.2.1 ha)) (H7.out.2.2.2.1.below ha).dep
  (H7.out.2.2.2.1.below ha).lm (H7.out.2.2.2.1.below ha).lc (by simp) (ah_ (ai_ H7.out.2.2.2.2.1 ha)).2.1).mono ?_
 rintro e w7 ⟨⟨g1, k1, gl, cl, rfl, hc1, lg1⟩, hb7'⟩
 have hb7 := ha.trans (hb7'.mono ha.size)
 have q1 := at_b hb7 H7.out.2.1
 have q4 := at_b hb7 H7.out.2.2.1
 have q5 := at_b hb7 H7.out.2.2.2.2.2.2.2
 have lq1 := lt_of_block q1
 have lq4 := lt_of_block q4
 have H8 := h9_ (H7.out.1.trans (hb7.mono H7.out.1.size)) q1 q4 (H7.out.2.2.2.1.below hb7) (ai_ H7.out.2.2.2.2.1 hb7) (H7.out.2.2.2.2.2.1.below hb7) (H7.out.2.2.2.2.2.2.1.below hb7) q5 hc1
 clear hb7 hb7' ha q1 q4 q5 hc1 H7
 go_wp2_with (refine wpList_load_row rfl 27 (.tmp 4) rfl w4.heap.size rfl 27 #[.slice (some ⟨am, 0, none⟩) 1 ac, .slice none 0 0, .slice (some ⟨th, 0, none⟩) 1 ch, .slice (some ⟨ak, 0, none⟩) 2 ack] (0, 0) _ H8.out.2.2.1 Tryz.underlying27 rfl (by kernel_rfl) ?_)
 refine (ni_ am ac ak ack th ch _ r2 r2_15 _ H8.out.2.2.2.1.mods (pg_ H8.out.2.2.2.2.1) H8.out.2.2.2.1.lm (ah_ H8.out.2.2.2.2.1).2.1).mono ?_
 rintro e w8 ⟨⟨g2, k2, rfl, hc2, lg2⟩, hb8⟩
 have q1 := at_b hb8 H8.out.2.1
 have q4 := at_b hb8 H8.out.2.2.1
 have q5 := at_b hb8 H8.out.2.2.2.2.2.2.2.1
 have hc1 := (hb8.cell (p := ⟨g1, 0, none⟩) lg1).trans H8.out.2.2.2.2.2.2.2.2
 have hv8 := H8.out.2.2.2.1.below hb8
 have ht8 := pg_ (ai_ H8.out.2.2.2.2.1 hb8)
 have a0 := al_ q4 0 rfl; have a2 := al_ q4 2 rfl; have a3 := al_ q4 3 rfl
 have lq1 := lt_of_block q1
 have lq4 := lt_of_block q4
 have lq5 := lt_of_block q5
 have H9 := h10_ (H8.out.1.trans (hb8.mono H8.out.1.size)) q1 q4 q5 (H8.out.2.2.2.2.2.1.below hb8) (H8.out.2.2.2.2.2.2.1.below hb8) hc1 hc2 hv8 ht8
 have l18 := Nat.lt_of_lt_of_le lg1 hb8.size
 clear hb8 q1 q4 q5 hc1 hc2 hv8 ht8 H8 lg1
 go_upto_region 12 with fail
 obtain ⟨_, q1, _, _, _, _, e1, e2, hv8, ht8⟩ := H9.out
 obtain ⟨TS, hTS⟩ : ∃ TS, TS = (⟨twoL.toArray⟩ : ByteArray) := ⟨_, rfl⟩
 have x5 : w8.cell? ⟨w1.heap.size, 5, none⟩ = some (.string TS) := by rw [hTS, ← HB.out.1]; exact al_ q1 5 (d6_ B)
 have x1 : w8.cell? ⟨ak, 1, none⟩ = some (.string TS) := by rw [hTS]; exact hv8.mem 1 _ rfl
 have x2 : w8.cell? ⟨ak, 2, none⟩ = some (.int .i64 1024) := hv8.mem 2 _ rfl
 have x19 : w8.cell? ⟨th, 19, none⟩ = some (.int .i64 1024) := by have := ht8 19 (.int .i64 1024) (by unfold dtC cpuL; rfl); simpa using this
 have lak := hv8.lc
 have lth := World.block_lt_of_cell? w8 _ x19
 have hsame : ∀ k, Calls Tryz.prog 8 #[.agg #[.slice m1 m2 m3, .slice n1 n2 n3, .slice o1 o2 o3, .slice p1 p2 p3], .agg #[.slice (some ⟨am, 0, none⟩) 1 ac, .slice none 0 0, .slice (some ⟨th, 0, none⟩) 1 ch, .slice (some ⟨ak, 0, none⟩) 2 ack]] (ext w8 k) fun e w'' => e = .returned (.bool true) ∧ ∃ m, w'' = ext w8 m := fun k => c5_ ((dsame (twoD hh SS) (twoD hh SS) HD.out.1 HD.out.1 HD.out.2.1 HD.out.2.1 0 _ _ _ (H9.out.2.2.2.2.2.1.below (cr_ w8 k)) (H9.out.2.2.2.2.1.below (cr_ w8 k))).mono fun e w' ⟨hb, he⟩ => ⟨by rw [he]; simp, hb⟩)
 have HSM := h1_ hsame
 clear hsame q1 e1 e2 hv8 ht8 hTS
 have e1 := H9.out.2.2.2.2.2.2.1
 have e2 := H9.out.2.2.2.2.2.2.2.1
 try simp only [Act.put, sxq]
 refine co_ (by kernel_rfl) (by kernel_rfl) ?_
 repeat (first
  | (go_big_quiet_want; refine a2_ 27 5 rfl w6.heap.size rfl 27 #[.slice m1 m2 m3, .slice n1 n2 n3, .slice o1 o2 o3, .slice p1 p2 p3] (0, 0) H9.out.2.2.2.1 _ Tryz.underlying27 rfl (by kernel_rfl) ?_; simp only [Act.put, sxq]; go_big_quiet_on)
  | (go_big_quiet_want; refine a2_ 27 4 rfl w4.heap.size rfl 27 #[.slice (some ⟨am, 0, none⟩) 1 ac, .slice none 0 0, .slice (some ⟨th, 0, none⟩) 1 ch, .slice (some ⟨ak, 0, none⟩) 2 ack] (0, 0) H9.out.2.2.1 _ Tryz.underlying27 rfl (by kernel_rfl) ?_; simp only [Act.put, sxq]; go_big_quiet_on)
  | go_big_quiet_step ((go_at_call 8; exact HSM.out _)))
 refine bn_ ?_
 intro q hq
 have bq := H9.out.1.trans (hq.mono H9.out.1.size)
 have HQ := h1_ bq
 clear bq hq
 go_wp2
 go_ret
 exact ⟨rfl, HQ.out⟩
end Two
section
open Go.RowKit Wire BigFrame
attribute [local go_sem] ak_ af_
attribute [local irreducible] repS cpuS modS strS chkS thrS du_
theorem xz_ (t : Nat → Nat) (c : Nat → Int) (D E : fx_) (hD : er_ D) (hE : er_ E) (tD : (cx_ D).length ≤ 34359738368) (tE : (cx_ E).length ≤ 34359738368) (l : List UInt8) (hl : l.length ≤ 34359738368) (u v : Value) (w : World) (hf : Forms w) (hT : Tabs t c w) (hu : et_ 0 w u D) (hv : et_ 0 w v E) :
 Calls Tryz.prog 3 #[u, v, strB l] w fun e w' => e = .returned (.bool true) ∧ Below w.heap.size w w' := by
 obtain ⟨a1, a2, a3, b1, b2, b3, c1, c2, c3, d1, d2, d3, hua⟩ := hu.agg
 obtain ⟨e1, e2, e3, f1, f2, f3, g1, g2, g3, k1, k2, k3, hva⟩ := hv.agg
 subst hua hva
 have HU := h2_ hu hv
 have HT := h4_ hD hE tD tE
 have HF := h2_ hf hT
 have HS := h1_ Two.xy_
 clear hu hv hD hE tD tE hf hT
 obtain ⟨S, hS⟩ : ∃ S, S = (⟨l.toArray⟩ : ByteArray) := ⟨_, rfl⟩
 have hSs : S.size ≤ 34359738368 := by rw [hS]; show l.toArray.size ≤ _; rw [List.size_toArray]; exact hl
 unfold strB
 rw [← hS]
 have HL := h2_ hl hS
 clear hl hS
 go_enter Tryz.func3, Tryz.ntmps3
 go_upto_region 1 with fail
 refine ac_ fun V hV => ?_
 have vB : Below w.heap.size w V := by rw [← hV]; go_grown
 have vu : V.heap[w.heap.size]? = some (.cells #[.slice a1 a2 a3, .slice b1 b2 b3, .slice c1 c2 c3, .slice d1 d2 d3] 27 (0, 0)) := by rw [← hV]; exact ae_ (heap_alloc_new _ _)
 have vv : V.heap[w.heap.size + 1]? = some (.cells #[.slice e1 e2 e3, .slice f1 f2 f3, .slice g1 g2 g3, .slice k1 k2 k3] 27 (0, 0)) := by rw [← hV]; exact block_at (by simp)
 have HV := h3_ vB vu vv
 clear vB vu vv hV
 go_wp2_with fail
 go_at_call 4
 refine (HS.out t c _ (HF.out.1.below HV.out.1) (HF.out.2.below HV.out.1)).mono ?_
 rintro e w1 ⟨rfl, hb1⟩
 have B1 := HV.out.1.trans (hb1.mono HV.out.1.size)
 have xu := at_b hb1 HV.out.2.1
 have xv := at_b hb1 HV.out.2.2
 have lxu := lt_of_block xu
 have lxv := lt_of_block xv
 have H1 := h3_ B1 xu xv
 clear hb1 B1 xu xv HV
 go_wp2_with (refine wpList_load_row rfl 27 (.tmp 3) rfl w.heap.size rfl 27 #[.slice a1 a2 a3, .slice b1 b2 b3, .slice c1 c2 c3, .slice d1 d2 d3] (0, 0) _ H1.out.2.1 Tryz.underlying27 rfl (by kernel_rfl) ?_)
 refine (nk_ D HT.out.1 0 _ _ (HU.out.1.below H1.out.1)).mono ?_
 rintro e w2 ⟨hb2, b, rfl⟩
 have B2 := H1.out.1.trans (hb2.mono H1.out.1.size)
 have xu := at_b hb2 H1.out.2.1
 have xv := at_b hb2 H1.out.2.2
 have lxu := lt_of_block xu
 have lxv := lt_of_block xv
 have H2 := h3_ B2 xu xv
 clear hb2 B2 xu xv H1
 cases b
 · go_wp2
   go_ret
   exact ⟨rfl, H2.out.1⟩
 go_wp2_with (refine is_ (by rfl) 27 (.tmp 4) rfl (w.heap.size + 1) rfl 27 #[.slice e1 e2 e3, .slice f1 f2 f3, .slice g1 g2 g3, .slice k1 k2 k3] (0, 0) _ H2.out.2.2 Tryz.underlying27 rfl (by kernel_rfl) ?_)
 refine (nk_ E HT.out.2.1 0 _ _ (HU.out.2.below H2.out.1)).mono ?_
 rintro e w3 ⟨hb3, b, rfl⟩
 have B3 := H2.out.1.trans (hb3.mono H2.out.1.size)
 have xu := at_b hb3 H2.out.2.1
 have xv := at_b hb3 H2.out.2.2
 have lxu := lt_of_block xu
 have lxv := lt_of_block xv
 have H3 := h3_ B3 xu xv
 clear hb3 B3 xu xv H2
 cases b
 · go_wp2
   go_ret
   exact ⟨rfl, H3.out.1⟩
 by_cases hS2 : 2000 < S.size
 · go_wp2
   go_ret
   exact ⟨rfl, H3.out.1⟩
 go_wp2_with (refine wpList_load_row rfl 27 (.tmp 3) rfl w.heap.size rfl 27 #[.slice a1 a2 a3, .slice b1 b2 b3, .slice c1 c2 c3, .slice d1 d2 d3] (0, 0) _ H3.out.2.1 Tryz.underlying27 rfl (by kernel_rfl) ?_)
 refine (j5_ D HT.out.1 HT.out.2.2.1 0 _ _ (HU.out.1.below H3.out.1)).mono ?_
 rintro e w4 ⟨hb4, rfl⟩
 have B4 := H3.out.1.trans (hb4.mono H3.out.1.size)
 have xu := at_b hb4 H3.out.2.1
 have xv := at_b hb4 H3.out.2.2
 have H4 := h3_ B4 xu xv
 clear hb4 B4 xu xv H3
 obtain ⟨A, hA⟩ : ∃ A, A = (⟨(cx_ D).toArray⟩ : ByteArray) := ⟨_, rfl⟩
 have hAs : A.size ≤ 34359738368 := by rw [hA]; show (cx_ D).toArray.size ≤ _; rw [List.size_toArray]; exact HT.out.2.2.1
 unfold strB
 rw [← hA]
 have HA := h1_ hA
 clear hA
 have hread : ∀ W : World, Calls Tryz.prog 7 #[.string A] W fun e w' => Below W.heap.size W w' ∧ ∃ v, e = .returned (.tuple #[v, .bool true]) ∧ et_ W.heap.size w' v D := fun W => by
  have := q7_ D HT.out.1 HT.out.2.2.1 W
  unfold strB at this
  rw [← HA.out] at this
  exact this
 have HR1 := h1_ hread
 clear hread
 have hmore : ∀ W : World, Calls Tryz.prog 7 #[.string (A ++ ⟨#[120]⟩)] W fun e w' => Below W.heap.size W w' ∧ e = .returned (.tuple #[.agg #[.slice none 0 0, .slice none 0 0, .slice none 0 0, .slice none 0 0], .bool false]) := fun W => by
  have := sj_ D HT.out.1 HT.out.2.2.1 120 W
  unfold strB at this
  have e : (⟨(cx_ D ++ [120]).toArray⟩ : ByteArray) = A ++ ⟨#[120]⟩ := by
   rw [HA.out]
   apply ByteArray.ext
   simp
  rw [e] at this
  exact this
 have HR2 := h1_ hmore
 clear hmore
 have hany : ∀ W : World, Calls Tryz.prog 7 #[.string S] W fun e w' => Below W.heap.size W w' ∧ ∃ (b : Bool) (Y : fx_) (v : Value), e = .returned (.tuple #[v, .bool b]) ∧ et_ W.heap.size w' v Y ∧ er_ Y ∧ (cx_ Y).length ≤ 34359738368 ∧ (b = true → cx_ Y = l) ∧ (b = false → Y = ([], [], [], [])) := fun W => by
  have := vr_ l HL.out.1 W
  unfold strB at this
  rw [← HL.out.2] at this
  exact this
 have HR3 := h1_ hany
 clear hany
 go_wp2_with fail
 refine (HR1.out _).mono ?_
 rintro e w5 ⟨hb5, x, rfl, hx⟩
 obtain ⟨m1, m2, m3, n1, n2, n3, o1, o2, o3, p1, p2, p3, hxa⟩ := hx.agg
 subst hxa
 have B5 := H4.out.1.trans (hb5.mono H4.out.1.size)
 have xu := at_b hb5 H4.out.2.1
 have xv := at_b hb5 H4.out.2.2
 have H5 := h4_ B5 xu xv (hx.lower (Nat.zero_le _))
 clear hb5 B5 xu xv hx H4
 have hcat : ¬ 9223372036854775807 < A.size + (⟨#[120]⟩ : ByteArray).size := by show ¬ 9223372036854775807 < A.size + 1; omega
 go_upto_region 6 with ((with_reducible refine ad_ ?_); refine sr_ rfl rfl (h := ?_); (try simp only [World.setRow_alloc_new]))
 refine ac_ fun X hX => ?_
 have xB : Below w5.heap.size w5 X := by rw [← hX]; go_grown
 have xx : X.heap[w5.heap.size]? = some (.cells #[.slice m1 m2 m3, .slice n1 n2 n3, .slice o1 o2 o3, .slice p1 p2 p3] 27 (0, 0)) := by rw [← hX]; exact heap_alloc_new _ _
 have B6 := H5.out.1.trans (xB.mono H5.out.1.size)
 have xu := at_b xB H5.out.2.1
 have xv := at_b xB H5.out.2.2.1
 have H6 := h5_ B6 xu xv (H5.out.2.2.2.below xB) xx
 clear hX xB xx B6 xu xv H5
 go_wp2_with fail
 refine (HR2.out _).mono ?_
 rintro e w7 ⟨hb7, rfl⟩
 have B7 := H6.out.1.trans (hb7.mono H6.out.1.size)
 have xu := at_b hb7 H6.out.2.1
 have xv := at_b hb7 H6.out.2.2.1
 have x9 := at_b hb7 H6.out.2.2.2.2
 have H7 := h5_ B7 xu xv (H6.out.2.2.2.1.below hb7) x9
 clear hb7 B7 xu xv x9 H6
 go_upto_region 7 with ((with_reducible refine ad_ ?_); refine sr_ rfl rfl (h := ?_); (try simp only [World.setRow_alloc_new]))
 refine ac_ fun Z hZ => ?_
 have zB : Below w7.heap.size w7 Z := by rw [← hZ]; go_grown
 have B8 := H7.out.1.trans (zB.mono H7.out.1.size)
 have xu := at_b zB H7.out.2.1
 have xv := at_b zB H7.out.2.2.1
 have x9 := at_b zB H7.out.2.2.2.2
 have H8 := h5_ B8 xu xv (H7.out.2.2.2.1.below zB) x9
 clear hZ zB B8 xu xv x9 H7
 go_wp2_with fail
 refine (HR3.out _).mono ?_
 rintro e w8 ⟨hb8, b, Y, y, rfl, hy, oky, lny, hyt, hyf⟩
 obtain ⟨q1, q2, q3, r1, r2, r3, s1, s2, s3, t1, t2, t3, hya⟩ := hy.agg
 subst hya
 have B9 := H8.out.1.trans (hb8.mono H8.out.1.size)
 have xu := at_b hb8 H8.out.2.1
 have xv := at_b hb8 H8.out.2.2.1
 have x9 := at_b hb8 H8.out.2.2.2.2
 have H9 := h6_ B9 xu xv (H8.out.2.2.2.1.below hb8) x9 (hy.lower (Nat.zero_le _))
 have HY := h4_ oky lny hyt hyf
 clear hb8 B9 xu xv x9 hy oky lny hyt hyf H8
 go_upto_region 8 with ((with_reducible refine ad_ ?_); refine sr_ rfl rfl (h := ?_); (try simp only [World.setRow_alloc_new]))
 refine ac_ fun U hU => ?_
 have uB : Below w8.heap.size w8 U := by rw [← hU]; go_grown
 have u13 : U.heap[w8.heap.size]? = some (.cells #[.slice q1 q2 q3, .slice r1 r2 r3, .slice s1 s2 s3, .slice t1 t2 t3] 27 (0, 0)) := by rw [← hU]; exact heap_alloc_new _ _
 have B10 := H9.out.1.trans (uB.mono H9.out.1.size)
 have xu := at_b uB H9.out.2.1
 have xv := at_b uB H9.out.2.2.1
 have x9 := at_b uB H9.out.2.2.2.2.1
 have vD := HU.out.1.below B10
 have vE := HU.out.2.below B10
 have H10 := h9_ B10 xu xv (H9.out.2.2.2.1.below uB) x9 (H9.out.2.2.2.2.2.below uB) u13 vD vE
 clear hU uB B10 xu xv x9 u13 vD vE H9
 have hS1 : ∀ k, Calls Tryz.prog 8 #[.agg #[.slice m1 m2 m3, .slice n1 n2 n3, .slice o1 o2 o3, .slice p1 p2 p3], .agg #[.slice a1 a2 a3, .slice b1 b2 b3, .slice c1 c2 c3, .slice d1 d2 d3]] (ext U k) fun e w'' => e = .returned (.bool true) ∧ ∃ m, w'' = ext U m := fun k => c5_ ((dsame D D HT.out.1 HT.out.1 HT.out.2.2.1 HT.out.2.2.1 0 _ _ _ (H10.out.2.2.2.1.below (cr_ U k)) (H10.out.2.2.2.2.2.2.2.1.below (cr_ U k))).mono fun e w' ⟨hb, he⟩ => ⟨by rw [he]; simp, hb⟩)
 have hB1 : ∀ k, Calls Tryz.prog 6 #[.agg #[.slice m1 m2 m3, .slice n1 n2 n3, .slice o1 o2 o3, .slice p1 p2 p3]] (ext U k) fun e w'' => e = .returned (.string A) ∧ ∃ m, w'' = ext U m := fun k => c5_ ((j5_ D HT.out.1 HT.out.2.2.1 0 _ _ (H10.out.2.2.2.1.below (cr_ U k))).mono fun e w' ⟨hb, he⟩ => ⟨by rw [he, HA.out]; rfl, hb⟩)
 have h4 : ∃ (EB : ByteArray) (r : Bool), (∀ k, Calls Tryz.prog 6 #[.agg #[.slice e1 e2 e3, .slice f1 f2 f3, .slice g1 g2 g3, .slice k1 k2 k3]] (ext U k) fun e w'' => e = .returned (.string EB) ∧ ∃ m, w'' = ext U m) ∧ (∀ k, Calls Tryz.prog 8 #[.agg #[.slice a1 a2 a3, .slice b1 b2 b3, .slice c1 c2 c3, .slice d1 d2 d3], .agg #[.slice e1 e2 e3, .slice f1 f2 f3, .slice g1 g2 g3, .slice k1 k2 k3]] (ext U k) fun e w'' => e = .returned (.bool r) ∧ ∃ m, w'' = ext U m) ∧ ((EB = A ∧ r = true) ∨ ((EB.toList == A.toList) = false ∧ r = false)) := by
  refine ⟨⟨(cx_ E).toArray⟩, decide (cx_ D = cx_ E), fun k => c5_ ((j5_ E HT.out.2.1 HT.out.2.2.2 0 _ _ (H10.out.2.2.2.2.2.2.2.2.below (cr_ U k))).mono fun e w' ⟨hb, he⟩ => ⟨by rw [he]; rfl, hb⟩), fun k => c5_ ((dsame D E HT.out.1 HT.out.2.1 HT.out.2.2.1 HT.out.2.2.2 0 _ _ _ (H10.out.2.2.2.2.2.2.2.1.below (cr_ U k)) (H10.out.2.2.2.2.2.2.2.2.below (cr_ U k))).mono fun e w' ⟨hb, he⟩ => ⟨he, hb⟩), ?_⟩
  by_cases h : cx_ D = cx_ E
  · exact .inl ⟨by rw [HA.out, h], by simp [h]⟩
  · exact .inr ⟨by rw [HA.out, str_eq]; exact decide_eq_false (fun e => h e.symm), by simp [h]⟩
 obtain ⟨EB, r4, hB4, hS4, hcmp⟩ := h4
 have HS1 := h1_ hS1
 have HB1 := h1_ hB1
 have HS4 := h1_ hS4
 have HB4 := h1_ hB4
 clear hS1 hB1 hS4 hB4 hcat
 cases b
 · have hY := HY.out.2.2.2 rfl
   have hS3 : ∀ k, Calls Tryz.prog 8 #[.agg #[.slice q1 q2 q3, .slice r1 r2 r3, .slice s1 s2 s3, .slice t1 t2 t3], .agg #[.slice none 0 0, .slice none 0 0, .slice none 0 0, .slice none 0 0]] (ext U k) fun e w'' => e = .returned (.bool true) ∧ ∃ m, w'' = ext U m := fun k => c5_ ((dsame Y ([], [], [], []) HY.out.1 vq_ HY.out.2.1 q6_ 0 _ _ _ (H10.out.2.2.2.2.2.1.below (cr_ U k)) (nl_ 0 _)).mono fun e w' ⟨hb, he⟩ => ⟨by rw [he, hY]; simp, hb⟩)
   have HS3 := h1_ hS3
   have HB3 := h1_ trivial
   clear hS3 hY HY
   rcases hcmp with ⟨rfl, rfl⟩ | ⟨hne, rfl⟩
   · clear HR1 HR2 HR3
     try simp only [Act.put, sxq]
     refine co_ (by kernel_rfl) (by kernel_rfl) ?_
     repeat (first
      | (go_big_quiet_want; refine a2_ 27 9 rfl (w5.heap.size) rfl 27 #[.slice m1 m2 m3, .slice n1 n2 n3, .slice o1 o2 o3, .slice p1 p2 p3] (0, 0) H10.out.2.2.2.2.1 _ Tryz.underlying27 rfl (by kernel_rfl) ?_; simp only [Act.put, sxq]; go_big_quiet_on)
      | (go_big_quiet_want; refine a2_ 27 3 rfl (w.heap.size) rfl 27 #[.slice a1 a2 a3, .slice b1 b2 b3, .slice c1 c2 c3, .slice d1 d2 d3] (0, 0) H10.out.2.1 _ Tryz.underlying27 rfl (by kernel_rfl) ?_; simp only [Act.put, sxq]; go_big_quiet_on)
      | (go_big_quiet_want; refine a2_ 27 4 rfl (w.heap.size + 1) rfl 27 #[.slice e1 e2 e3, .slice f1 f2 f3, .slice g1 g2 g3, .slice k1 k2 k3] (0, 0) H10.out.2.2.1 _ Tryz.underlying27 rfl (by kernel_rfl) ?_; simp only [Act.put, sxq]; go_big_quiet_on)
      | (go_big_quiet_want; refine a2_ 27 13 rfl (w8.heap.size) rfl 27 #[.slice q1 q2 q3, .slice r1 r2 r3, .slice s1 s2 s3, .slice t1 t2 t3] (0, 0) H10.out.2.2.2.2.2.2.1 _ Tryz.underlying27 rfl (by kernel_rfl) ?_; simp only [Act.put, sxq]; go_big_quiet_on)
      | go_big_quiet_step ((first
       | (go_at_call 8; first | with_reducible exact HS1.out _ | with_reducible exact HS4.out _ | with_reducible exact HS3.out _)
       | (go_at_call 6; first | with_reducible exact HB1.out _ | with_reducible exact HB4.out _ | with_reducible exact HB3.out _))))
     refine bn_ ?_
     intro q hq
     have bq := H10.out.1.trans (hq.mono H10.out.1.size)
     have HQ := h1_ bq
     clear bq hq
     go_wp2
     go_ret
     exact ⟨rfl, HQ.out⟩
   · clear HR1 HR2 HR3
     try simp only [Act.put, sxq]
     refine co_ (by kernel_rfl) (by kernel_rfl) ?_
     repeat (first
      | (go_big_quiet_want; refine a2_ 27 9 rfl (w5.heap.size) rfl 27 #[.slice m1 m2 m3, .slice n1 n2 n3, .slice o1 o2 o3, .slice p1 p2 p3] (0, 0) H10.out.2.2.2.2.1 _ Tryz.underlying27 rfl (by kernel_rfl) ?_; simp only [Act.put, sxq]; go_big_quiet_on)
      | (go_big_quiet_want; refine a2_ 27 3 rfl (w.heap.size) rfl 27 #[.slice a1 a2 a3, .slice b1 b2 b3, .slice c1 c2 c3, .slice d1 d2 d3] (0, 0) H10.out.2.1 _ Tryz.underlying27 rfl (by kernel_rfl) ?_; simp only [Act.put, sxq]; go_big_quiet_on)
      | (go_big_quiet_want; refine a2_ 27 4 rfl (w.heap.size + 1) rfl 27 #[.slice e1 e2 e3, .slice f1 f2 f3, .slice g1 g2 g3, .slice k1 k2 k3] (0, 0) H10.out.2.2.1 _ Tryz.underlying27 rfl (by kernel_rfl) ?_; simp only [Act.put, sxq]; go_big_quiet_on)
      | (go_big_quiet_want; refine a2_ 27 13 rfl (w8.heap.size) rfl 27 #[.slice q1 q2 q3, .slice r1 r2 r3, .slice s1 s2 s3, .slice t1 t2 t3] (0, 0) H10.out.2.2.2.2.2.2.1 _ Tryz.underlying27 rfl (by kernel_rfl) ?_; simp only [Act.put, sxq]; go_big_quiet_on)
      | go_big_quiet_step ((first
       | (go_at_call 8; first | with_reducible exact HS1.out _ | with_reducible exact HS4.out _ | with_reducible exact HS3.out _)
       | (go_at_call 6; first | with_reducible exact HB1.out _ | with_reducible exact HB4.out _ | with_reducible exact HB3.out _))))
     refine bn_ ?_
     intro q hq
     have bq := H10.out.1.trans (hq.mono H10.out.1.size)
     have HQ := h1_ bq
     clear bq hq
     go_wp2
     go_ret
     exact ⟨rfl, HQ.out⟩
 · have hY := HY.out.2.2.1 rfl
   have hB3 : ∀ k, Calls Tryz.prog 6 #[.agg #[.slice q1 q2 q3, .slice r1 r2 r3, .slice s1 s2 s3, .slice t1 t2 t3]] (ext U k) fun e w'' => e = .returned (.string S) ∧ ∃ m, w'' = ext U m := fun k => c5_ ((j5_ Y HY.out.1 HY.out.2.1 0 _ _ (H10.out.2.2.2.2.2.1.below (cr_ U k))).mono fun e w' ⟨hb, he⟩ => ⟨by rw [he, hY, HL.out.2]; rfl, hb⟩)
   have HB3 := h1_ hB3
   have HS3 := h1_ trivial
   clear hB3 hY HY
   rcases hcmp with ⟨rfl, rfl⟩ | ⟨hne, rfl⟩
   · clear HR1 HR2 HR3
     try simp only [Act.put, sxq]
     refine co_ (by kernel_rfl) (by kernel_rfl) ?_
     repeat (first
      | (go_big_quiet_want; refine a2_ 27 9 rfl (w5.heap.size) rfl 27 #[.slice m1 m2 m3, .slice n1 n2 n3, .slice o1 o2 o3, .slice p1 p2 p3] (0, 0) H10.out.2.2.2.2.1 _ Tryz.underlying27 rfl (by kernel_rfl) ?_; simp only [Act.put, sxq]; go_big_quiet_on)
      | (go_big_quiet_want; refine a2_ 27 3 rfl (w.heap.size) rfl 27 #[.slice a1 a2 a3, .slice b1 b2 b3, .slice c1 c2 c3, .slice d1 d2 d3] (0, 0) H10.out.2.1 _ Tryz.underlying27 rfl (by kernel_rfl) ?_; simp only [Act.put, sxq]; go_big_quiet_on)
      | (go_big_quiet_want; refine a2_ 27 4 rfl (w.heap.size + 1) rfl 27 #[.slice e1 e2 e3, .slice f1 f2 f3, .slice g1 g2 g3, .slice k1 k2 k3] (0, 0) H10.out.2.2.1 _ Tryz.underlying27 rfl (by kernel_rfl) ?_; simp only [Act.put, sxq]; go_big_quiet_on)
      | (go_big_quiet_want; refine a2_ 27 13 rfl (w8.heap.size) rfl 27 #[.slice q1 q2 q3, .slice r1 r2 r3, .slice s1 s2 s3, .slice t1 t2 t3] (0, 0) H10.out.2.2.2.2.2.2.1 _ Tryz.underlying27 rfl (by kernel_rfl) ?_; simp only [Act.put, sxq]; go_big_quiet_on)
      | go_big_quiet_step ((first
       | (go_at_call 8; first | with_reducible exact HS1.out _ | with_reducible exact HS4.out _ | with_reducible exact HS3.out _)
       | (go_at_call 6; first | with_reducible exact HB1.out _ | with_reducible exact HB4.out _ | with_reducible exact HB3.out _))))
     refine bn_ ?_
     intro q hq
     have bq := H10.out.1.trans (hq.mono H10.out.1.size)
     have HQ := h1_ bq
     clear bq hq
     go_wp2
     go_ret
     exact ⟨rfl, HQ.out⟩
   · clear HR1 HR2 HR3
     try simp only [Act.put, sxq]
     refine co_ (by kernel_rfl) (by kernel_rfl) ?_
     repeat (first
      | (go_big_quiet_want; refine a2_ 27 9 rfl (w5.heap.size) rfl 27 #[.slice m1 m2 m3, .slice n1 n2 n3, .slice o1 o2 o3, .slice p1 p2 p3] (0, 0) H10.out.2.2.2.2.1 _ Tryz.underlying27 rfl (by kernel_rfl) ?_; simp only [Act.put, sxq]; go_big_quiet_on)
      | (go_big_quiet_want; refine a2_ 27 3 rfl (w.heap.size) rfl 27 #[.slice a1 a2 a3, .slice b1 b2 b3, .slice c1 c2 c3, .slice d1 d2 d3] (0, 0) H10.out.2.1 _ Tryz.underlying27 rfl (by kernel_rfl) ?_; simp only [Act.put, sxq]; go_big_quiet_on)
      | (go_big_quiet_want; refine a2_ 27 4 rfl (w.heap.size + 1) rfl 27 #[.slice e1 e2 e3, .slice f1 f2 f3, .slice g1 g2 g3, .slice k1 k2 k3] (0, 0) H10.out.2.2.1 _ Tryz.underlying27 rfl (by kernel_rfl) ?_; simp only [Act.put, sxq]; go_big_quiet_on)
      | (go_big_quiet_want; refine a2_ 27 13 rfl (w8.heap.size) rfl 27 #[.slice q1 q2 q3, .slice r1 r2 r3, .slice s1 s2 s3, .slice t1 t2 t3] (0, 0) H10.out.2.2.2.2.2.2.1 _ Tryz.underlying27 rfl (by kernel_rfl) ?_; simp only [Act.put, sxq]; go_big_quiet_on)
      | go_big_quiet_step ((first
       | (go_at_call 8; first | with_reducible exact HS1.out _ | with_reducible exact HS4.out _ | with_reducible exact HS3.out _)
       | (go_at_call 6; first | with_reducible exact HB1.out _ | with_reducible exact HB4.out _ | with_reducible exact HB3.out _))))
     refine bn_ ?_
     intro q hq
     have bq := H10.out.1.trans (hq.mono H10.out.1.size)
     have HQ := h1_ bq
     clear bq hq
     go_wp2
     go_ret
     exact ⟨rfl, HQ.out⟩
end
end Go.Proofs.YtacaejpamidkcaaGreatDoor
