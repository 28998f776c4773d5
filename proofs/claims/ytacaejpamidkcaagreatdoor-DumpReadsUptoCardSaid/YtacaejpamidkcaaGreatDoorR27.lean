/- image.coder: ints, texts. -/
import Derived.Test.YtacaejpamidkcaaGreatDoorR26
set_option linter.unusedVariables false
set_option linter.unusedSimpArgs false
set_option maxRecDepth 100000
set_option maxHeartbeats 2000000
namespace Go.Proofs.YtacaejpamidkcaaGreatDoor
section
open Go.RowKit Wire
attribute [local go_sem] ak_ af_
def Cod (B c : Nat) (bs : List UInt8) (w : World) : Prop := a9_ 349 [.pointer none] B c bs w
theorem e3_ : BldTy 349 [.pointer none] := ⟨by kernel_rfl, by decide⟩
theorem Cod.inn {B c : Nat} {bs : List UInt8} {w : World} (h : Cod B c bs w) : w.cell? ⟨c, 2, none⟩ = some (.pointer none) := by
 obtain ⟨p, _, v, hb, _⟩ := a9_.any h
 exact ab_ hb 2 rfl
def Held (c : Nat) (w : World) (a : Nat × Nat) (x : Value) : Prop := ∃ cs t, w.heap[a.1]? = some (.cells cs t (0, 0)) ∧ a.1 ≠ c ∧ t ≠ 5 ∧ cs[a.2]? = some x
theorem Held.keep {c : Nat} {w w' : World} {a : Nat × Nat} {x : Value} (h : Held c w a x) (k : an_ c w w') : Held c w' a x := by
 obtain ⟨cs, t, h1, h2, h3, h4⟩ := h
 exact ⟨cs, t, k.at_ h1 h2 h3, h2, h3, h4⟩
theorem Held.cell {c : Nat} {w : World} {a : Nat × Nat} {x : Value} (h : Held c w a x) : w.cell? ⟨a.1, a.2, none⟩ = some x := by
 obtain ⟨cs, t, h1, h2, h3, h4⟩ := h
 exact ab_ (l := cs.toList) h1 a.2 (by rw [← h4]; simp)
def gr_ (ps : List (Nat × Nat)) : List Value := ps.map fun a => .pointer (some ⟨a.1, a.2, none⟩)
theorem mr_ (ps : List (Nat × Nat)) (i : Nat) (hi : i < ps.length) : (gr_ ps)[i]? = some (.pointer (some ⟨ps[i].1, ps[i].2, none⟩)) := by simp [gr_, hi]
theorem jt_ {α : Type} (f : α → List UInt8) (xs : List α) (i : Nat) (hi : i < xs.length) : ((xs.take i).map f).flatten ++ f xs[i] = ((xs.take (i + 1)).map f).flatten := by
 rw [List.take_succ_eq_append_getElem hi, List.map_append, List.flatten_append]
 simp only [List.map_cons, List.map_nil, List.flatten_cons, List.flatten_nil, List.append_nil]
theorem ms_ {α : Type} (f : α → List UInt8) (xs : List α) (i : Nat) (hi : i < xs.length) : ((xs.take i).map f).flatten.length + (f xs[i]).length ≤ (xs.map f).flatten.length := by
 have h := jt_ f xs i hi
 have h2 : ((xs.take (i + 1)).map f).flatten.length ≤ (xs.map f).flatten.length := by
  conv => rhs; rw [← List.take_append_drop (i + 1) xs, List.map_append, List.flatten_append, List.length_append]
  omega
 rw [← h, List.length_append] at h2
 exact h2
theorem cints (B c vb : Nat) (bs : List UInt8) (ps : List (Nat × Nat)) (xs : List Int) (hps : ps.length = xs.length) (hn : ps.length ≤ 1000) (w : World) (h : Cod B c bs w) (hB : B ≤ w.heap.size)
 (hv : w.heap[vb]? = some (.cells (gr_ ps).toArray 215 (0, 0))) (hvc : vb ≠ c) (hx : ∀ (i : Nat) (p : Nat × Nat) (x : Int), ps[i]? = some p → xs[i]? = some x → Held c w p (.int .i64 x)) (hok : ∀ i (hi : i < xs.length), I64 xs[i]) (hlen : bs.length + (xs.map intL).flatten.length ≤ 140737488355328) :
 Calls Tryz.prog 302 #[.pointer (some ⟨c, 0, none⟩), .slice (some ⟨vb, 0, none⟩) ps.length ps.length] w fun e w' => e = .returned (.tuple #[]) ∧ Cod B c (bs ++ (xs.map intL).flatten) w' ∧ Below B w w' ∧ an_ c w w' := by
 have HG := h5_ h hv hx hok hlen
 have HP := h1_ hps
 clear h hv hx hok hlen hps
 go_enter Tryz.func302, Tryz.ntmps302
 go_wp2_with fail
 go_loopw [8] (fun v wr => ∃ i : Nat, v = .int .i64 i ∧ i ≤ ps.length ∧ Cod B c (bs ++ ((xs.take i).map intL).flatten) wr ∧ Below B w wr ∧ an_ c w wr) (fun v _ => ps.length - (RowKit.intOf v).toNat)
 case atStart => exact ⟨0, rfl, by omega, by simpa using HG.out.1, Below.refl _ _, an_.refl _ _⟩
 case round =>
  obtain ⟨i, rfl, hi, hc, hb, hk⟩ := hrel
  have i0 : (0 : Int) ≤ (i : Int) := by omega
  by_cases hil : i < ps.length
  · have iN : (i : Int) < (ps.length : Int) := by omega
    have hxl : i < xs.length := by rw [← HP.out]; exact hil
    obtain ⟨pb, po, ep⟩ : ∃ pb po, ps[i] = (pb, po) := ⟨_, _, rfl⟩
    have hrow := hk.at_ HG.out.2.1 hvc (by decide)
    have y1 := ab_ hrow i (by rw [mr_ ps i hil, ep])
    have hxc := (HG.out.2.2.1 i _ _ (List.getElem?_eq_getElem hil) (List.getElem?_eq_getElem hxl)).keep hk
    rw [ep] at hxc
    have hcl := hxc.cell
    have y2 := hc.inn
    have lcw : c < wr.heap.size := a9_.lt hc
    have HD := h5_ hc hb hk hxc ep
    obtain ⟨x, hxx⟩ : ∃ x, x = xs[i] := ⟨_, rfl⟩
    rw [← hxx] at hcl hxc
    have HX := h2_ hxx hcl
    clear hc hb hk hxc ep hrow hxx
    go_upto_region 5 with fail
    refine wq_ 7 [] (fun _ => False) [.pt c 0, .pt c 0, .pt c 0, .pt pb po, .pt pb po, .val (.int .i64 x), .val (strB (intL x))] (fun _ _ => True) (by kernel_rfl) (by kernel_rfl) (trivial) ?_ ?_
    · simp only [a4_, List.take]
      refine ⟨?_, ?_, ?_, ?_, ?_, ?_, ?_, trivial⟩
      all_goals intro k a wr ho hJ hk hr hf hd
      · have h0 : zp_ a 0 c 0 := (hf 0).trans rfl
        exact dp_ hJ (by simp [execOp, h0, go_sem])
      · have h24 : z_ a 24 _ := hd 0
        exact dp_ hJ (by simp [execOp, h24, go_sem])
      · have h25 : z_ a 25 _ := hd 1
        exact dp_ hJ (by simp [execOp, h25, go_sem])
      · have h5 : zp_ a 5 pb po := (hf 5).trans rfl
        exact dp_ hJ (by simp [execOp, h5, go_sem])
      · have h27 : z_ a 27 _ := hd 3
        exact dp_ hJ (by simp [execOp, h27, go_sem])
      · have h28 : z_ a 28 _ := hd 4
        have hc5 : wr.cell? ⟨pb, po, none⟩ = some (.int .i64 x) := (World.cell?_of_block (ho.block pb (World.block_lt_of_cell? _ _ HX.out.2) id)).trans HX.out.2
        exact dp_ hJ (by simp [execOp, h28, hc5, go_sem])
      · have h29 : z_ a 29 _ := hd 5
        refine a0_ (f := 46) (args := #[.int .i64 x]) (by simp [execOp, h29, go_sem]) ?_
        exact (wint x (by rw [HX.out.1]; exact HG.out.2.2.2.1 i hxl) _).mono fun e w' ⟨hb, he⟩ => ⟨_, he, rfl, Only.of_below hb, trivial⟩
    · intro fv w2 ho2 hj hs
      rw [seqv hs [24, 25, 26, 27, 28, 29, 30] (by kernel_rfl)]
      simp only [actV, Act.put, List.drop, List.length, List.setIfInBounds_toArray, List.set_cons_zero, List.set_cons_succ]
      clear hs
      have hbel : Below wr.heap.size wr w2 := ho2.below (Nat.le_refl _) (fun k h => h.elim)
      have hcod : Cod B c (bs ++ ((xs.take i).map intL).flatten) w2 := a9_.below HD.out.1 hbel
      have hfl := ms_ intL xs i hxl
      have hlen : (bs ++ ((xs.take i).map intL).flatten).length + (intL x).length ≤ 140737488355328 := by rw [List.length_append, HX.out.1]; have := HG.out.2.2.2.2; omega
      have sz1 := HD.out.2.1.size
      have sz2 := hbel.size
      have HB := h2_ (HD.out.2.1.trans (hbel.mono (by omega))) (HD.out.2.2.1.trans (an_.below hbel))
      clear hbel hfl ho2
      go_wp2_with fail
      refine (c7_ 349 [.pointer none] e3_ B c _ (intL x) _ hcod hlen (by omega)).mono ?_
      rintro e w3 ⟨rfl, hcd, hbe, hkn⟩
      have hc3 : Cod B c (bs ++ ((xs.take (i + 1)).map intL).flatten) w3 := by
       have h3 := hcd.is
       rw [HX.out.1, List.append_assoc, jt_ intL xs i hxl] at h3
       exact h3
      have H3 := h3_ hc3 (HB.out.1.trans hbe) (HB.out.2.trans hkn)
      clear hcd hbe hkn hc3 hlen hcod
      go_wp2
      go_roundw
      case rel => exact ⟨i + 1, rfl, by omega, H3.out.1, H3.out.2.1, H3.out.2.2⟩
      case measure => simp [RowKit.intOf]; omega
  · have iN : ¬ (i : Int) < (ps.length : Int) := by omega
    have ei : i = xs.length := by rw [← HP.out]; omega
    rw [ei, List.take_length] at hc
    have H3 := h3_ hc hb hk
    clear hc hb hk ei
    go_wp2
    refine bodyPost_end (results_none rfl _ _ _) rfl ?_
    exact ⟨rfl, H3.out.1, H3.out.2.1, H3.out.2.2⟩
theorem ctexts (B c vb : Nat) (bs : List UInt8) (ps : List (Nat × Nat)) (xs : List (List UInt8)) (hps : ps.length = xs.length) (hn : ps.length ≤ 1000) (w : World) (h : Cod B c bs w) (hB : B ≤ w.heap.size)
 (hv : w.heap[vb]? = some (.cells (gr_ ps).toArray 436 (0, 0))) (hvc : vb ≠ c) (hx : ∀ (i : Nat) (p : Nat × Nat) (x : (List UInt8)), ps[i]? = some p → xs[i]? = some x → Held c w p (strB x)) (hok : ∀ i (hi : i < xs.length), xs[i].length ≤ 1099511627776) (hlen : bs.length + (xs.map bm_).flatten.length ≤ 140737488355328) :
 Calls Tryz.prog 304 #[.pointer (some ⟨c, 0, none⟩), .slice (some ⟨vb, 0, none⟩) ps.length ps.length] w fun e w' => e = .returned (.tuple #[]) ∧ Cod B c (bs ++ (xs.map bm_).flatten) w' ∧ Below B w w' ∧ an_ c w w' := by
 have HG := h5_ h hv hx hok hlen
 have HP := h1_ hps
 clear h hv hx hok hlen hps
 go_enter Tryz.func304, Tryz.ntmps304
 go_wp2_with fail
 go_loopw [8] (fun v wr => ∃ i : Nat, v = .int .i64 i ∧ i ≤ ps.length ∧ Cod B c (bs ++ ((xs.take i).map bm_).flatten) wr ∧ Below B w wr ∧ an_ c w wr) (fun v _ => ps.length - (RowKit.intOf v).toNat)
 case atStart => exact ⟨0, rfl, by omega, by simpa using HG.out.1, Below.refl _ _, an_.refl _ _⟩
 case round =>
  obtain ⟨i, rfl, hi, hc, hb, hk⟩ := hrel
  have i0 : (0 : Int) ≤ (i : Int) := by omega
  by_cases hil : i < ps.length
  · have iN : (i : Int) < (ps.length : Int) := by omega
    have hxl : i < xs.length := by rw [← HP.out]; exact hil
    obtain ⟨pb, po, ep⟩ : ∃ pb po, ps[i] = (pb, po) := ⟨_, _, rfl⟩
    have hrow := hk.at_ HG.out.2.1 hvc (by decide)
    have y1 := ab_ hrow i (by rw [mr_ ps i hil, ep])
    have hxc := (HG.out.2.2.1 i _ _ (List.getElem?_eq_getElem hil) (List.getElem?_eq_getElem hxl)).keep hk
    rw [ep] at hxc
    have hcl := hxc.cell
    have y2 := hc.inn
    have lcw : c < wr.heap.size := a9_.lt hc
    have HD := h5_ hc hb hk hxc ep
    obtain ⟨x, hxx⟩ : ∃ x, x = xs[i] := ⟨_, rfl⟩
    rw [← hxx] at hcl hxc
    have HX := h2_ hxx hcl
    clear hc hb hk hxc ep hrow hxx
    go_upto_region 5 with fail
    refine wq_ 7 [] (fun _ => False) [.pt c 0, .pt c 0, .pt c 0, .pt pb po, .pt pb po, .val (strB x), .val (strB (bm_ x))] (fun _ _ => True) (by kernel_rfl) (by kernel_rfl) (trivial) ?_ ?_
    · simp only [a4_, List.take]
      refine ⟨?_, ?_, ?_, ?_, ?_, ?_, ?_, trivial⟩
      all_goals intro k a wr ho hJ hk hr hf hd
      · have h0 : zp_ a 0 c 0 := (hf 0).trans rfl
        exact dp_ hJ (by simp [execOp, h0, go_sem])
      · have h24 : z_ a 24 _ := hd 0
        exact dp_ hJ (by simp [execOp, h24, go_sem])
      · have h25 : z_ a 25 _ := hd 1
        exact dp_ hJ (by simp [execOp, h25, go_sem])
      · have h5 : zp_ a 5 pb po := (hf 5).trans rfl
        exact dp_ hJ (by simp [execOp, h5, go_sem])
      · have h27 : z_ a 27 _ := hd 3
        exact dp_ hJ (by simp [execOp, h27, go_sem])
      · have h28 : z_ a 28 _ := hd 4
        have hc5 : wr.cell? ⟨pb, po, none⟩ = some (strB x) := (World.cell?_of_block (ho.block pb (World.block_lt_of_cell? _ _ HX.out.2) id)).trans HX.out.2
        exact dp_ hJ (by simp [execOp, h28, hc5, go_sem])
      · have h29 : z_ a 29 _ := hd 5
        refine a0_ (f := 16) (args := #[strB x]) (by simp [execOp, h29, go_sem]) ?_
        exact (lr_ x (by rw [HX.out.1]; exact HG.out.2.2.2.1 i hxl) _).mono fun e w' ⟨hb, he⟩ => ⟨_, he, rfl, Only.of_below hb, trivial⟩
    · intro fv w2 ho2 hj hs
      rw [seqv hs [24, 25, 26, 27, 28, 29, 30] (by kernel_rfl)]
      simp only [actV, Act.put, List.drop, List.length, List.setIfInBounds_toArray, List.set_cons_zero, List.set_cons_succ]
      clear hs
      have hbel : Below wr.heap.size wr w2 := ho2.below (Nat.le_refl _) (fun k h => h.elim)
      have hcod : Cod B c (bs ++ ((xs.take i).map bm_).flatten) w2 := a9_.below HD.out.1 hbel
      have hfl := ms_ bm_ xs i hxl
      have hlen : (bs ++ ((xs.take i).map bm_).flatten).length + (bm_ x).length ≤ 140737488355328 := by rw [List.length_append, HX.out.1]; have := HG.out.2.2.2.2; omega
      have sz1 := HD.out.2.1.size
      have sz2 := hbel.size
      have HB := h2_ (HD.out.2.1.trans (hbel.mono (by omega))) (HD.out.2.2.1.trans (an_.below hbel))
      clear hbel hfl ho2
      go_wp2_with fail
      refine (c7_ 349 [.pointer none] e3_ B c _ (bm_ x) _ hcod hlen (by omega)).mono ?_
      rintro e w3 ⟨rfl, hcd, hbe, hkn⟩
      have hc3 : Cod B c (bs ++ ((xs.take (i + 1)).map bm_).flatten) w3 := by
       have h3 := hcd.is
       rw [HX.out.1, List.append_assoc, jt_ bm_ xs i hxl] at h3
       exact h3
      have H3 := h3_ hc3 (HB.out.1.trans hbe) (HB.out.2.trans hkn)
      clear hcd hbe hkn hc3 hlen hcod
      go_wp2
      go_roundw
      case rel => exact ⟨i + 1, rfl, by omega, H3.out.1, H3.out.2.1, H3.out.2.2⟩
      case measure => simp [RowKit.intOf]; omega
  · have iN : ¬ (i : Int) < (ps.length : Int) := by omega
    have ei : i = xs.length := by rw [← HP.out]; omega
    rw [ei, List.take_length] at hc
    have H3 := h3_ hc hb hk
    clear hc hb hk ei
    go_wp2
    refine bodyPost_end (results_none rfl _ _ _) rfl ?_
    exact ⟨rfl, H3.out.1, H3.out.2.1, H3.out.2.2⟩
end
end Go.Proofs.YtacaejpamidkcaaGreatDoor
