/- linchpinlaw39.ConvertPieces. -/
import Derived.Test.YtkbilipgidcgeaaGreatDoorW43
set_option linter.unusedVariables false
set_option linter.unusedSimpArgs false
namespace Go.Proofs.YtkbilipgidcgeaaGreatDoor
open Go.RowKit
attribute [local go_sem] ext_cell ext_frozen
attribute [local irreducible] labCells modC threadC


theorem moved_self (p : Part) : p.moved p.blk p.cap = p := rfl

/-- The first process by its blocks' names. -/
def PN.qn (n : PN) (d : List UInt8) : QN := ⟨n.p, n.s, n.l, n.gm, n.cm, n.g, n.cap, n.b1, (codeP (labL d) n.b1).cap, n.b2, (dataQ n.b2 (datL d)).cap, n.b3, (stackP n.b3).cap⟩

theorem labQ_self (d D : List UInt8) (n : PN) : labQ d (n.qn d) D = labP d n.b1 n.b2 n.b3 D := rfl

theorem LabQ.keep {h0 h1 : Nat} {B B2 : ByteArray} {d d2 : List UInt8} {w w' : World} {m n : QN} {D D' : List UInt8} (h : LabQ h0 B d w m D') (hn : LabQ h1 B2 d2 w n D) (ho : Only (spaceFoot n.s n.pv (labQ d2 n D)) w w')
    (hd : ∀ x, spaceFoot m.s m.pv (labQ d m D') x → ¬ spaceFoot n.s n.pv (labQ d2 n D) x) : LabQ h0 B d w' m D' := by
  obtain ⟨⟨b, th, hp⟩, ⟨s', b', st, ord, hl⟩, hm⟩ := h.lite
  obtain ⟨cur, hc⟩ := ownsRow_block hm m.gm rfl
  exact ⟨h.lite.kept ho (hn.space.not_cells hp (by decide) (by decide) (by decide)) (hn.space.not_cells hl (by decide) (by decide) (by decide)) (hn.space.not_cells hc (by decide) (by decide) (by decide)), h.space.kept ho hd, h.fresh⟩

/-- The copy by its blocks' names. -/
theorem moved_labQ {d D : List UInt8} {n : QN} {ns : List Part} (h : Moved ns (labQ d n D)) : ∃ a1 c1 a2 c2 a3 c3, ns = [(codeP (labL d) a1).moved a1 c1, (dataQ a2 D).moved a2 c2, (stackP a3).moved a3 c3] := by
  obtain ⟨hl, he⟩ := h
  have hl3 : ns.length = 3 := hl
  match ns, hl3, he with
  | [x, y, z], _, he =>
    obtain ⟨a1, c1, e1⟩ := he 0 (by simp) (by simp [labQ])
    obtain ⟨a2, c2, e2⟩ := he 1 (by simp) (by simp [labQ])
    obtain ⟨a3, c3, e3⟩ := he 2 (by simp) (by simp [labQ])
    refine ⟨a1, c1, a2, c2, a3, c3, ?_⟩
    rw [show x = _ from e1, show y = _ from e2, show z = _ from e3]
    rfl

/-- The first k pieces are within. -/
def accB (l : List Pc) (k : Nat) (n : Int) : Bool := (l.take k).all (withinB · 128 n)
theorem acc_next {l : List Pc} {k : Nat} {n : Int} (h : k < l.length) : accB l (k + 1) n = (accB l k n && withinB l[k] 128 n) := by
  unfold accB
  rw [List.take_succ_eq_append_getElem h, List.all_append]
  simp
theorem acc_all (l : List Pc) (bs : List UInt8) : accB l l.length bs.length = okL l bs := by
  unfold accB okL
  rw [List.take_length]

set_option maxRecDepth 100000 in
set_option maxHeartbeats 4000000 in
theorem pieces_ok (A S : ByteArray) (d bs : List UInt8) (hA : A = ⟨d.toArray⟩) (hS : S = ⟨bs.toArray⟩) (b1 b2 : Option Addr) (k1 k2 : Nat) (l more : List Pc) (w : World) (hf : Forms w)
    (hv1 : PcsV w.heap.size w (.slice b1 l.length k1) l) (hv2 : PcsV w.heap.size w (.slice b2 more.length k2) more) :
    Calls Tryz.prog 5 #[.string A, .string S, .slice b1 l.length k1, .slice b2 more.length k2] w fun e w' => e = .returned (.bool true) ∧ Below w.heap.size w w' := by
  have hAs : A.size = d.length := by subst hA; simp [ByteArray.size]
  have hSs : S.size = bs.length := by subst hS; simp [ByteArray.size]
  have HV := Lib.hid (And.intro hv1 (And.intro hv2 (And.intro hA (And.intro hS (And.intro hf (And.intro hAs hSs))))))
  clear hA hS hf hv1 hv2 hAs hSs
  go_enter Tryz.func5, Tryz.ntmps5
  go_wp2_with fail
  go_at_call 6
  refine (small_ok w HV.out.2.2.2.2.1).mono ?_
  rintro e w1 ⟨rfl, hb1⟩
  have H1 := Lib.hid hb1
  have l1 := hb1.size
  clear hb1
  by_cases q1 : (128 : Int) < A.size
  · have q1' : (128 : Nat) < A.size := by omega
    go_wp2
    all_goals first | (exfalso; omega) | (go_ret; exact ⟨rfl, H1.out⟩)
  by_cases q2 : (128 : Int) < S.size
  · have q2' : (128 : Nat) < S.size := by omega
    go_wp2
    all_goals first | (exfalso; omega) | (go_ret; exact ⟨rfl, H1.out⟩)
  by_cases q3 : (20 : Int) < l.length
  · have q3' : (20 : Nat) < l.length := by omega
    go_wp2
    all_goals first | (exfalso; omega) | (go_ret; exact ⟨rfl, H1.out⟩)
  by_cases q4 : (20 : Int) < more.length
  · have q4' : (20 : Nat) < more.length := by omega
    go_wp2
    all_goals first | (exfalso; omega) | (go_ret; exact ⟨rfl, H1.out⟩)
  have q1' : ¬ (128 : Nat) < A.size := by omega
  have q2' : ¬ (128 : Nat) < S.size := by omega
  have q3' : ¬ (20 : Nat) < l.length := by omega
  have q4' : ¬ (20 : Nat) < more.length := by omega
  go_upto_region 4 with fail
  all_goals first | (exfalso; omega) | skip
  have hdl : d.length ≤ 128 := by have := HV.out.2.2.2.2.2.1; omega
  have hbl : bs.length ≤ 128 := by have := HV.out.2.2.2.2.2.2; omega
  go_wp2_with fail
  go_at_call 8
  rw [HV.out.2.2.1]
  refine (lab_any d _ (by omega) (HV.out.2.2.2.2.1.below H1.out)).mono ?_
  rintro e w2 ⟨hb2, rfl⟩
  obtain ⟨B, hB⟩ : ∃ B, B = (⟨(labL d).toArray⟩ : ByteArray) := ⟨_, rfl⟩
  rw [← hB]
  have l2 := hb2.size
  have H2 := Lib.hid (And.intro (H1.out.trans (hb2.mono l1)) hB)
  clear hb2 hB
  go_wp2_with (refine wpList_run rfl (buildSlice_lab 42 B _ _ _ rfl rfl) ?_)
  go_at_call 7
  refine (pnew_fresh w2.heap.size (labL d) B H2.out.2 (labL_length _ (by omega)) _ (heap_alloc_new _ _)).mono ?_
  rintro e w3 ⟨n, rfl, hb3, hP, hsp, hfr⟩
  have hps : [codeP (labL d) n.b1, dataP (labL d) n.b2, stackP n.b3] = labP d n.b1 n.b2 n.b3 (datL d) := by
    rw [dataP_eq _ (labL_length _ (by omega)), labL_data]; rfl
  rw [hps] at hsp hfr
  have kB : Below w.heap.size w w3 := H2.out.1.trans ((((Below.refl w2.heap.size w2).alloc (Nat.le_refl _) _).trans (hb3.mono (by simp))).mono (by omega))
  have l3 : w2.heap.size ≤ w3.heap.size := by have := hb3.size; simp at this; omega
  have H3 := Lib.hid (And.intro kB (And.intro hP (And.intro hsp (fun x hx => Nat.le_trans (by simp; omega) (hfr x hx) : ∀ x, spaceFoot n.s (.slice (some ⟨n.g, 0, none⟩) 3 n.cap) (labP d n.b1 n.b2 n.b3 (datL d)) x → w.heap.size ≤ x))))
  have lp3 := lt_of_block hP.head
  clear hb3 hP hsp hfr hps kB
  go_wp2_with fail
  go_at_call 18
  refine (pcopy n B (labP d n.b1 n.b2 n.b3 (datL d)) w3 H3.out.2.1 (areas_lab3 _ _ _ _ _) H3.out.2.2.1 (by simp [labP])).mono ?_
  rintro e w4 ⟨q, s2, lo2, gm2, cm2, pv, ns, rfl, hb4, hQ, hsq, hmv, hfq⟩
  obtain ⟨gq, capq, rfl, _⟩ := hsq.parts (fun e => by rw [e] at hmv; have := hmv.1; simp [labP] at this)
  obtain ⟨a1, c1, a2, c2, a3, c3, rfl⟩ := moved_labQ (d := d) (D := datL d) (n := n.qn d) hmv
  have hLq : LabQ w.heap.size B d w4 ⟨q, s2, lo2, gm2, cm2, gq, capq, a1, c1, a2, c2, a3, c3⟩ (datL d) := ⟨hQ, hsq, fun x hx => Nat.le_trans (by omega) (hfq x hx)⟩
  have hLp : LabQ w.heap.size B d w4 (n.qn d) (datL d) := (LabQ.mk H3.out.2.1.lite H3.out.2.2.1 H3.out.2.2.2 : LabQ w.heap.size B d w3 (n.qn d) (datL d)).below hb4
  have hdj : ∀ D', ∀ x, spaceFoot s2 (.slice (some ⟨gq, 0, none⟩) 3 capq) (labQ d ⟨q, s2, lo2, gm2, cm2, gq, capq, a1, c1, a2, c2, a3, c3⟩ (datL d)) x → ¬ spaceFoot (n.qn d).s (n.qn d).pv (labQ d (n.qn d) D') x := fun D' x hx hy => by
    have h1 := hfq x hx
    have h2 := H3.out.2.2.1.lt x (foot_labQ (n := n.qn d) (D' := datL d) hy)
    omega
  obtain ⟨m, hm⟩ : ∃ m : QN, m = ⟨q, s2, lo2, gm2, cm2, gq, capq, a1, c1, a2, c2, a3, c3⟩ := ⟨_, rfl⟩
  have hdj' : ∀ D', ∀ x, spaceFoot m.s m.pv (labQ d m (datL d)) x → ¬ spaceFoot (n.qn d).s (n.qn d).pv (labQ d (n.qn d) D') x := by rw [hm]; exact hdj
  rw [← hm] at hLq
  have hmp : q = m.p := by rw [hm]
  clear hm hQ hsq hmv hfq hdj
  subst hmp
  have H4 := Lib.hid (And.intro (H3.out.1.trans (hb4.mono (by omega))) (And.intro hLp (And.intro hLq hdj')))
  have l4 : w.heap.size ≤ w4.heap.size := by have := hb4.size; omega
  clear hb4 hLq hLp hdj'
  go_wp2_with fail
  go_loopw [13, 14] (fun ok i wr => ∃ k : Nat, k ≤ l.length ∧ i = .int .i64 k ∧ ok = .bool (accB l k S.size) ∧ Below w4.heap.size w4 wr) (fun _ i _ => l.length - (pI i).toNat)
  case atStart => exact ⟨0, Nat.zero_le _, rfl, rfl, Below.refl _ _⟩
  case round =>
    obtain ⟨k, hk, rfl, rfl, hb⟩ := hrel
    by_cases hlt : k < l.length
    · have hall : accB l (k + 1) S.size = (accB l k S.size && withinB l[k] 128 S.size) := acc_next hlt
      obtain ⟨ob, hob⟩ : ∃ ob, ob = accB l k S.size := ⟨_, rfl⟩
      rw [← hob] at hall ⊢
      have hwr : Below w.heap.size w wr := H4.out.1.trans (hb.mono l4)
      have hlr := hb.size
      rcases HV.out.1.below hwr with ⟨hv, rfl⟩ | ⟨g, o, cap, hv, hg, hpc⟩
      · simp at hlt
      obtain ⟨d0, d1, d2⟩ := hpc.three k hlt
      cases hv
      obtain ⟨⟨xf, xs, xt⟩, hx⟩ : ∃ x, x = l[k] := ⟨_, rfl⟩
      rw [← hx] at d0 d1 d2 hall
      dsimp only at d0 d1 d2
      have HA := Lib.hid (And.intro hall (And.intro hb (And.intro hob hx)))
      have hgr : g < wr.heap.size := by omega
      clear hpc hall hb hwr hx hob hlr
      cases ob with
      | false =>
        go_wp2_with ((with_reducible refine at_store_law ?_); refine wpList_store_row rfl _ _ _ rfl _ _ rfl rfl _ _ (by (repeat (first | assumption | exact heap_alloc_new _ _ | refine block_old ?_ | refine block_drew ?_ | apply setRow_heap | (refine (setRow_other _ _ _ _ ?_).trans ?_; omega)))) (by kernel_rfl) (by rfl) (by simp [Value.oneCell']) ?_; (try simp only [World.setRow_alloc_new]))
        go_roundw
        case rel =>
          obtain ⟨hall, hb, hob, hx⟩ := HA.out
          exact ⟨k + 1, by omega, by go_num, by rw [hall]; rfl, hb.trans ((Below.refl _ _).alloc (Nat.le_refl _) _ |>.mono hb.size)⟩
        case measure => simp [pI]; omega
      | true =>
        by_cases g1 : 0 ≤ xf
        rotate_left
        · have e1 : decide (0 ≤ xf) = false := by simp; omega
          go_wp2_with ((with_reducible refine at_store_law ?_); refine wpList_store_row rfl _ _ _ rfl _ _ rfl rfl _ _ (by (repeat (first | assumption | exact heap_alloc_new _ _ | refine block_old ?_ | refine block_drew ?_ | apply setRow_heap | (refine (setRow_other _ _ _ _ ?_).trans ?_; omega)))) (by kernel_rfl) (by rfl) (by simp [Value.oneCell']) ?_; (try simp only [World.setRow_alloc_new]))
          go_roundw
          case rel =>
            obtain ⟨hall, hb, hob, hx⟩ := HA.out
            have hwi : withinB ⟨xf, xs, xt⟩ 128 S.size = false := by simp [withinB]; omega
            exact ⟨k + 1, by omega, by go_num, by rw [hall, hwi]; rfl, hb.trans ((Below.refl _ _).alloc (Nat.le_refl _) _ |>.mono hb.size)⟩
          case measure => simp [pI]; omega
        have e1 : decide (0 ≤ xf) = true := by simp; omega
        by_cases g2 : xf ≤ 128
        rotate_left
        · have e2 : decide (xf ≤ 128) = false := by simp; omega
          go_wp2_with ((with_reducible refine at_store_law ?_); refine wpList_store_row rfl _ _ _ rfl _ _ rfl rfl _ _ (by (repeat (first | assumption | exact heap_alloc_new _ _ | refine block_old ?_ | refine block_drew ?_ | apply setRow_heap | (refine (setRow_other _ _ _ _ ?_).trans ?_; omega)))) (by kernel_rfl) (by rfl) (by simp [Value.oneCell']) ?_; (try simp only [World.setRow_alloc_new]))
          go_roundw
          case rel =>
            obtain ⟨hall, hb, hob, hx⟩ := HA.out
            have hwi : withinB ⟨xf, xs, xt⟩ 128 S.size = false := by simp [withinB]; omega
            exact ⟨k + 1, by omega, by go_num, by rw [hall, hwi]; rfl, hb.trans ((Below.refl _ _).alloc (Nat.le_refl _) _ |>.mono hb.size)⟩
          case measure => simp [pI]; omega
        have e2 : decide (xf ≤ 128) = true := by simp; omega
        by_cases g3 : 0 ≤ xs
        rotate_left
        · have e3 : decide (0 ≤ xs) = false := by simp; omega
          go_wp2_with ((with_reducible refine at_store_law ?_); refine wpList_store_row rfl _ _ _ rfl _ _ rfl rfl _ _ (by (repeat (first | assumption | exact heap_alloc_new _ _ | refine block_old ?_ | refine block_drew ?_ | apply setRow_heap | (refine (setRow_other _ _ _ _ ?_).trans ?_; omega)))) (by kernel_rfl) (by rfl) (by simp [Value.oneCell']) ?_; (try simp only [World.setRow_alloc_new]))
          go_roundw
          case rel =>
            obtain ⟨hall, hb, hob, hx⟩ := HA.out
            have hwi : withinB ⟨xf, xs, xt⟩ 128 S.size = false := by simp [withinB]; omega
            exact ⟨k + 1, by omega, by go_num, by rw [hall, hwi]; rfl, hb.trans ((Below.refl _ _).alloc (Nat.le_refl _) _ |>.mono hb.size)⟩
          case measure => simp [pI]; omega
        have e3 : decide (0 ≤ xs) = true := by simp; omega
        by_cases g4 : xs ≤ 128
        rotate_left
        · have e4 : decide (xs ≤ 128) = false := by simp; omega
          go_wp2_with ((with_reducible refine at_store_law ?_); refine wpList_store_row rfl _ _ _ rfl _ _ rfl rfl _ _ (by (repeat (first | assumption | exact heap_alloc_new _ _ | refine block_old ?_ | refine block_drew ?_ | apply setRow_heap | (refine (setRow_other _ _ _ _ ?_).trans ?_; omega)))) (by kernel_rfl) (by rfl) (by simp [Value.oneCell']) ?_; (try simp only [World.setRow_alloc_new]))
          go_roundw
          case rel =>
            obtain ⟨hall, hb, hob, hx⟩ := HA.out
            have hwi : withinB ⟨xf, xs, xt⟩ 128 S.size = false := by simp [withinB]; omega
            exact ⟨k + 1, by omega, by go_num, by rw [hall, hwi]; rfl, hb.trans ((Below.refl _ _).alloc (Nat.le_refl _) _ |>.mono hb.size)⟩
          case measure => simp [pI]; omega
        have e4 : decide (xs ≤ 128) = true := by simp; omega
        by_cases g5 : 0 ≤ xt
        rotate_left
        · have e5 : decide (0 ≤ xt) = false := by simp; omega
          go_wp2_with ((with_reducible refine at_store_law ?_); refine wpList_store_row rfl _ _ _ rfl _ _ rfl rfl _ _ (by (repeat (first | assumption | exact heap_alloc_new _ _ | refine block_old ?_ | refine block_drew ?_ | apply setRow_heap | (refine (setRow_other _ _ _ _ ?_).trans ?_; omega)))) (by kernel_rfl) (by rfl) (by simp [Value.oneCell']) ?_; (try simp only [World.setRow_alloc_new]))
          go_roundw
          case rel =>
            obtain ⟨hall, hb, hob, hx⟩ := HA.out
            have hwi : withinB ⟨xf, xs, xt⟩ 128 S.size = false := by simp [withinB]; omega
            exact ⟨k + 1, by omega, by go_num, by rw [hall, hwi]; rfl, hb.trans ((Below.refl _ _).alloc (Nat.le_refl _) _ |>.mono hb.size)⟩
          case measure => simp [pI]; omega
        have e5 : decide (0 ≤ xt) = true := by simp; omega
        by_cases g6 : xt ≤ 128
        rotate_left
        · have e6 : decide (xt ≤ 128) = false := by simp; omega
          go_wp2_with ((with_reducible refine at_store_law ?_); refine wpList_store_row rfl _ _ _ rfl _ _ rfl rfl _ _ (by (repeat (first | assumption | exact heap_alloc_new _ _ | refine block_old ?_ | refine block_drew ?_ | apply setRow_heap | (refine (setRow_other _ _ _ _ ?_).trans ?_; omega)))) (by kernel_rfl) (by rfl) (by simp [Value.oneCell']) ?_; (try simp only [World.setRow_alloc_new]))
          go_roundw
          case rel =>
            obtain ⟨hall, hb, hob, hx⟩ := HA.out
            have hwi : withinB ⟨xf, xs, xt⟩ 128 S.size = false := by simp [withinB]; omega
            exact ⟨k + 1, by omega, by go_num, by rw [hall, hwi]; rfl, hb.trans ((Below.refl _ _).alloc (Nat.le_refl _) _ |>.mono hb.size)⟩
          case measure => simp [pI]; omega
        have e6 : decide (xt ≤ 128) = true := by simp; omega
        have hw1 : IntKind.i64.wrap (xf + xs) = xf + xs := IntWalk.i64_in _ (by omega)
        have hw2 : IntKind.i64.wrap (xt + xs) = xt + xs := IntWalk.i64_in _ (by omega)
        by_cases g7 : xf + xs ≤ 128
        rotate_left
        · have e7 : decide (xf + xs ≤ 128) = false := by simp; omega
          go_wp2_with ((with_reducible refine at_store_law ?_); refine wpList_store_row rfl _ _ _ rfl _ _ rfl rfl _ _ (by (repeat (first | assumption | exact heap_alloc_new _ _ | refine block_old ?_ | refine block_drew ?_ | apply setRow_heap | (refine (setRow_other _ _ _ _ ?_).trans ?_; omega)))) (by kernel_rfl) (by rfl) (by simp [Value.oneCell']) ?_; (try simp only [World.setRow_alloc_new]))
          go_roundw
          case rel =>
            obtain ⟨hall, hb, hob, hx⟩ := HA.out
            have hwi : withinB ⟨xf, xs, xt⟩ 128 S.size = false := by simp [withinB]; omega
            exact ⟨k + 1, by omega, by go_num, by rw [hall, hwi]; rfl, hb.trans ((Below.refl _ _).alloc (Nat.le_refl _) _ |>.mono hb.size)⟩
          case measure => simp [pI]; omega
        have e7 : decide (xf + xs ≤ 128) = true := by simp; omega
        by_cases g8 : xt + xs ≤ (S.size : Int)
        rotate_left
        · have e8 : decide (xt + xs ≤ (S.size : Int)) = false := by simp; omega
          go_wp2_with ((with_reducible refine at_store_law ?_); refine wpList_store_row rfl _ _ _ rfl _ _ rfl rfl _ _ (by (repeat (first | assumption | exact heap_alloc_new _ _ | refine block_old ?_ | refine block_drew ?_ | apply setRow_heap | (refine (setRow_other _ _ _ _ ?_).trans ?_; omega)))) (by kernel_rfl) (by rfl) (by simp [Value.oneCell']) ?_; (try simp only [World.setRow_alloc_new]))
          go_roundw
          case rel =>
            obtain ⟨hall, hb, hob, hx⟩ := HA.out
            have hwi : withinB ⟨xf, xs, xt⟩ 128 S.size = false := by simp [withinB]; omega
            exact ⟨k + 1, by omega, by go_num, by rw [hall, hwi]; rfl, hb.trans ((Below.refl _ _).alloc (Nat.le_refl _) _ |>.mono hb.size)⟩
          case measure => simp [pI]; omega
        have e8 : decide (xt + xs ≤ (S.size : Int)) = true := by simp; omega
        go_wp2_with ((with_reducible refine at_store_law ?_); refine wpList_store_row rfl _ _ _ rfl _ _ rfl rfl _ _ (by (repeat (first | assumption | exact heap_alloc_new _ _ | refine block_old ?_ | refine block_drew ?_ | apply setRow_heap | (refine (setRow_other _ _ _ _ ?_).trans ?_; omega)))) (by kernel_rfl) (by rfl) (by simp [Value.oneCell']) ?_; (try simp only [World.setRow_alloc_new]))
        go_roundw
        case rel =>
          obtain ⟨hall, hb, hob, hx⟩ := HA.out
          have hwi : withinB ⟨xf, xs, xt⟩ 128 S.size = true := by simp [withinB]; omega
          exact ⟨k + 1, by omega, by go_num, by rw [hall, hwi]; rfl, hb.trans ((Below.refl _ _).alloc (Nat.le_refl _) _ |>.mono hb.size)⟩
        case measure => simp [pI]; omega
    · have hkl : k = l.length := by omega
      subst hkl
      have hacc : accB l l.length S.size = okL l bs := by rw [HV.out.2.2.2.2.2.2]; exact acc_all l bs
      obtain ⟨r1, hr1⟩ : ∃ r, r = okL l bs := ⟨_, rfl⟩
      obtain ⟨r2, hr2⟩ : ∃ r, r = okL more bs := ⟨_, rfl⟩
      rw [hacc, ← hr1]
      have hlr := hb.size
      obtain ⟨D1, hD1⟩ : ∃ X, X = if r1 = true then convD (datL d) bs l else datL d := ⟨_, rfl⟩
      obtain ⟨D2, hD2⟩ : ∃ X, X = if r2 = true then convD D1 bs more else D1 := ⟨_, rfl⟩
      obtain ⟨D3, hD3⟩ : ∃ X, X = if r2 = true then convD (datL d) bs more else datL d := ⟨_, rfl⟩
      have h23 : r2 = true → D2 = D3 := by
        intro h
        rw [hD2, hD3, if_pos h, if_pos h, hD1]
        by_cases h1 : r1 = true
        · rw [if_pos h1]; exact convD_twice (datL d) bs l more (datL_length d (by omega)) hbl (hr1.symm.trans h1) (hr2.symm.trans h)
        · rw [if_neg h1]
      have hwr : Below w.heap.size w wr := H4.out.1.trans (hb.mono l4)
      have HR := Lib.hid (And.intro hb (And.intro hwr (And.intro hr1 (And.intro hr2 (And.intro hD1 (And.intro hD2 (And.intro hD3 h23)))))))
      clear hb hwr hr1 hr2 hD1 hD2 hD3 h23 hacc hlt
      go_upto_region 15 with ((with_reducible refine at_store_law ?_); refine wpList_store_row rfl _ _ _ rfl _ _ rfl rfl _ _ (by (repeat (first | assumption | exact heap_alloc_new _ _ | refine block_old ?_ | refine block_drew ?_ | apply setRow_heap | (refine (setRow_other _ _ _ _ ?_).trans ?_; omega)))) (by kernel_rfl) (by rfl) (by simp [Value.oneCell']) ?_; (try simp only [World.setRow_alloc_new]))
      refine name_world fun V hV => ?_
      have vB : Below wr.heap.size wr V := by rw [← hV]; go_grown
      have vs : V.heap[wr.heap.size]? = some (.cells [.int .i64 768, .int .i64 128].toArray 49 (0, 0)) := by rw [← hV]; exact heap_alloc_new _ _
      clear hV
      have kV : Below w.heap.size w V := HR.out.2.1.trans (vB.mono (by omega))
      have lV := vB.size
      have vp := (H4.out.2.1.below HR.out.1).below vB
      have vq := (H4.out.2.2.1.below HR.out.1).below vB
      have s0 := cell_in vs 0 rfl
      have s1 := cell_in vs 1 rfl
      have HW := Lib.hid (And.intro kV (And.intro vp (And.intro vq vs)))
      clear vB vs kV vp vq
      go_wp2_with fail
      go_at_call 12
      refine (run_labQ w.heap.size B d (n.qn d) (datL d) (.slice b1 l.length k1) l bs S HV.out.2.2.2.1 V HW.out.2.1 (by omega) (HV.out.1.below HW.out.1) (by omega) (by omega)).mono ?_
      rintro e w5 ⟨rfl, hb5, ho5, hL5⟩
      rw [← HR.out.2.2.1] at hL5 ⊢
      rw [← HR.out.2.2.2.2.1] at hL5
      have q5 := HW.out.2.2.1.keep HW.out.2.1 ho5 (H4.out.2.2.2 (datL d))
      have vs5 := ho5.kept HW.out.2.2.2 (HW.out.2.1.space.not_cells HW.out.2.2.2 (by decide) (by decide) (by decide))
      have k5 : Below w.heap.size w w5 := HW.out.1.trans hb5
      have l5 := hb5.size
      clear s0 s1
      have s0 := cell_in vs5 0 rfl
      have s1 := cell_in vs5 1 rfl
      have H5 := Lib.hid (And.intro k5 (And.intro hL5 (And.intro q5 vs5)))
      clear hb5 ho5 hL5 q5 vs5 k5
      have hlw : w.heap.size ≤ w5.heap.size := by omega
      cases r1 <;> cases r2
      all_goals
        go_wp2_with fail
        go_at_call 12
        refine (run_labQ w.heap.size B d (n.qn d) D1 (.slice b2 more.length k2) more bs S HV.out.2.2.2.1 w5 H5.out.2.1 hlw (HV.out.2.1.below H5.out.1) (by omega) (by omega)).mono ?_
        rintro e w6 ⟨rfl, hb6, ho6, hL6⟩
        rw [← HR.out.2.2.2.1] at hL6 ⊢
        replace hL6 : LabQ w.heap.size B d w6 (n.qn d) D2 := by rw [HR.out.2.2.2.2.2.1]; exact hL6
        have q6 := H5.out.2.2.1.keep H5.out.2.1 ho6 (H4.out.2.2.2 D1)
        have vs6 := ho6.kept H5.out.2.2.2 (H5.out.2.1.space.not_cells H5.out.2.2.2 (by decide) (by decide) (by decide))
        have k6 : Below w.heap.size w w6 := H5.out.1.trans hb6
        have l6 := hb6.size
        clear s0 s1
        have s0 := cell_in vs6 0 rfl
        have s1 := cell_in vs6 1 rfl
        have H6 := Lib.hid (And.intro k6 (And.intro hL6 (And.intro q6 vs6)))
        clear hb6 ho6 hL6 q6 vs6 k6
        go_wp2_with fail
        go_at_call 12
        refine (run_labQ w.heap.size B d m (datL d) (.slice b2 more.length k2) more bs S HV.out.2.2.2.1 w6 H6.out.2.2.1 (by omega) (HV.out.2.1.below H6.out.1) (by omega) (by omega)).mono ?_
        rintro e w7 ⟨rfl, hb7, ho7, hL7⟩
        rw [← HR.out.2.2.2.1] at hL7 ⊢
        replace hL7 : LabQ w.heap.size B d w7 m D3 := by rw [HR.out.2.2.2.2.2.2.1]; exact hL7
        have p7 := H6.out.2.1.keep H6.out.2.2.1 ho7 (fun x hx hy => H4.out.2.2.2 D2 x hy hx)
        have k7 : Below w.heap.size w w7 := H6.out.1.trans hb7
        have l7 := hb7.size
        clear s0 s1
        have H7 := Lib.hid (And.intro k7 (And.intro p7 hL7))
        clear hb7 ho7 hL7 p7 k7
        first
          | (have h23 : D2 = D3 := by simpa using HR.out.2.2.2.2.2.2.2
             have h7 := H7.out.2.2
             rw [← h23] at h7
             have H8 := Lib.hid h7
             clear h23 h7
             go_wp2_with fail
             go_at_call 19
             refine (same_labQ H7.out.2.1 H8.out).mono ?_
             rintro e w8 ⟨rfl, hb8⟩
             have H9 := Lib.hid (H7.out.1.trans (hb8.mono (by omega)))
             clear hb8
             go_wp2_with fail
             go_ret
             exact ⟨rfl, H9.out⟩)
          | (go_wp2_with fail
             go_ret
             exact ⟨rfl, H7.out.1⟩)
end Go.Proofs.YtkbilipgidcgeaaGreatDoor
