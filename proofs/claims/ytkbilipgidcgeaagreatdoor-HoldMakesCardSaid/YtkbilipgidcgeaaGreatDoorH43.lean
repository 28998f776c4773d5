/- hold.Held. -/
import Derived.BigRegion
import Derived.Test.YtkbilipgidcgeaaGreatDoorH41
set_option linter.unusedVariables false
set_option linter.unusedSimpArgs false
namespace Go.Proofs.YtkbilipgidcgeaaGreatDoor.Tiny
open Go.RowKit Go.ChangeMaps Go.Maps
attribute [local go_sem] ext_cell ext_frozen run_store_func
attribute [local irreducible] labCells modC threadC

theorem mk_bools (n : Nat) (hn : n ≤ 1000) (w : World) : (Instr.makeSlice 117 (.int .i64 (n : Int)) (.int .i64 (n : Int))).run Tryz.prog w = .ok (.slice (some ⟨w.heap.size, 0, none⟩) n n) (w.alloc (.cells (List.replicate n (Value.bool false)).toArray 4)) :=
  by simpa [made_one] using run_make_row' _ _ (.bool false) 1 Tryz.underlying117 (by kernel_rfl) rfl .i64 .i64 n (by omega) (by omega) w
theorem mk_bools1 (w : World) : (Instr.makeSlice 117 (.int .i64 1) (.int .i64 1)).run Tryz.prog w = .ok (.slice (some ⟨w.heap.size, 0, none⟩) 1 1) (w.alloc (.cells #[.bool false] 4)) := by simpa [List.replicate] using mk_bools 1 (by omega) w

theorem results_slices {fn : Func} {p p2 : Tmp} (h : fn.results = #[.cell p 117, .cell p2 117]) (tmps : Array Value) (w : World) (g g2 : Nat) (a a2 : Option Addr) (n n2 c c2 : Nat)
    (hp : tmps.getD p undef = .pointer (some ⟨g, 0, none⟩)) (hg : w.cell? ⟨g, 0, none⟩ = some (.slice a n c)) (hp2 : tmps.getD p2 undef = .pointer (some ⟨g2, 0, none⟩)) (hg2 : w.cell? ⟨g2, 0, none⟩ = some (.slice a2 n2 c2)) :
    (results fn tmps).run Tryz.prog w = .ok (.tuple #[.slice a n c, .slice a2 n2 c2]) w := by
  have hp' : tmps[p]?.getD undef = .pointer (some ⟨g, 0, none⟩) := by simpa using hp
  have hp2' : tmps[p2]?.getD undef = .pointer (some ⟨g2, 0, none⟩) := by simpa using hp2
  simp [results, h, hp', hp2', asAddr, hg, hg2, go_sem]
/-- Behind the two makes: k, k + 1: the boxes of the results. -/
def Bools (w : World) (k n : Nat) (w' : World) : Prop := ∃ gs gm, w'.heap[k]? = some (.cells #[.slice (some ⟨gs, 0, none⟩) n n] 117 (0, 0)) ∧ w'.heap[k + 1]? = some (.cells #[.slice (some ⟨gm, 0, none⟩) 1 1] 117 (0, 0)) ∧
  w'.heap[gs]? = some (.cells (List.replicate n (Value.bool false)).toArray 4 (0, 0)) ∧ w'.heap[gm]? = some (.cells #[.bool false] 4 (0, 0)) ∧ w.heap.size ≤ gs ∧ w.heap.size ≤ gm ∧ gs ≠ gm ∧ Only (fun b => b = k ∨ b = k + 1) w w'

/-- A block of Held's own: of none of the types of the view. -/
def OwnB (w : World) (b : Nat) : Prop := ∃ cs t fr, w.heap[b]? = some (Obj.cells cs t fr) ∧ (t = 117 ∨ t = 4 ∨ t = 178 ∨ t = 172)
theorem own_ne {w : World} {b : Nat} {cs : Array Value} {t : TypeId} {fr : Nat × Nat} (h : w.heap[b]? = some (Obj.cells cs t fr)) (hb : OwnB w b) (h1 : t ≠ 117) (h2 : t ≠ 4) (h3 : t ≠ 178) (h4 : t ≠ 172) : False := by
  obtain ⟨cs', t', fr', h', ht⟩ := hb
  rw [h] at h'
  simp only [Option.some.injEq, Obj.cells.injEq] at h'
  rw [← h'.2.1] at ht
  rcases ht with ht | ht | ht | ht
  · exact h1 ht
  · exact h2 ht
  · exact h3 ht
  · exact h4 ht
theorem row_off {w w' : World} {S : Nat → Prop} {base size g n cap : Nat} {e : TypeId} {xs : List Value} (h : w.ownsRow base e size (.slice (some ⟨g, 0, none⟩) n cap) n xs) (ho : Only S w w') (hS : ∀ b, b < w.heap.size → S b → OwnB w b) (h1 : e ≠ 117) (h2 : e ≠ 4) (h3 : e ≠ 178) (h4 : e ≠ 172) : w'.ownsRow base e size (.slice (some ⟨g, 0, none⟩) n cap) n xs :=
  ownsRow_kept h ho (fun hs => by
    obtain ⟨cs, fr, hc⟩ := own_cells h rfl
    exact own_ne hc (hS g (lt_of_block hc) hs) h1 h2 h3 h4)
theorem ViewAt.boxes {B : ByteArray} {w w' : World} {x : VN} {p : Nat} {l : List Str} {ps : List Part} {S : Nat → Prop} (h : ViewAt B w x p l ps) (ho : Only S w w') (hS : ∀ b, b < w.heap.size → S b → OwnB w b) : ViewAt B w' x p l ps := by
  refine ⟨ho.kept h.head (fun hs => own_ne h.head (hS _ (lt_of_block h.head) hs) (by decide) (by decide) (by decide) (by decide)), row_off h.mods ho hS (by decide) (by decide) (by decide) (by decide), ?_, row_off h.areas ho hS (by decide) (by decide) (by decide) (by decide)⟩
  rcases h.strs with hh | ⟨g, cap, hh, h1, h2⟩
  · exact .inl hh
  · rw [hh] at h2
    exact .inr ⟨g, cap, hh, h1, hh ▸ row_off h2 ho hS (by decide) (by decide) (by decide) (by decide)⟩
theorem row_only {w w' : World} {S : Nat → Prop} {base size n : Nat} {e : TypeId} {v : Value} {xs : List Value} (h : w.ownsRow base e size v n xs) (ho : Only S w w') (hn : ∀ g, v.ownBlock = some g → ¬ S g) : w'.ownsRow base e size v n xs := by
  refine ⟨h.1, ?_⟩
  rcases h.2 with h | ⟨g, cap, cur, rfl, h2, h3, h4⟩
  · exact .inl h
  · exact .inr ⟨g, cap, cur, rfl, h2, ho.kept h3 (hn g rfl), h4⟩
theorem rep_arr (n : Nat) : Array.replicate n (Value.bool false) = (List.replicate n (Value.bool false)).toArray := by simp
theorem bools_set {w : World} {k : Nat} {v0 v1 v2 v3 : Value} {t : TypeId} (h0 : w.heap[k]? = some (.cells #[v0] t (0, 0))) (h1 : w.heap[k + 1]? = some (.cells #[v1] t (0, 0))) (o1 o2 : Obj) :
    ((((w.setCell ⟨k, 0, none⟩ v2).setCell ⟨k + 1, 0, none⟩ v3).alloc o1).alloc o2).drew.heap[k]? = some (.cells #[v2] t (0, 0)) ∧ ((((w.setCell ⟨k, 0, none⟩ v2).setCell ⟨k + 1, 0, none⟩ v3).alloc o1).alloc o2).drew.heap[k + 1]? = some (.cells #[v3] t (0, 0)) ∧
    ((((w.setCell ⟨k, 0, none⟩ v2).setCell ⟨k + 1, 0, none⟩ v3).alloc o1).alloc o2).drew.heap[w.heap.size]? = some o1 ∧ ((((w.setCell ⟨k, 0, none⟩ v2).setCell ⟨k + 1, 0, none⟩ v3).alloc o1).alloc o2).drew.heap[w.heap.size + 1]? = some o2 ∧
    Only (fun b => b = k ∨ b = k + 1) w ((((w.setCell ⟨k, 0, none⟩ v2).setCell ⟨k + 1, 0, none⟩ v3).alloc o1).alloc o2).drew := by
  have l0 := lt_of_block h0
  have l1 := lt_of_block h1
  have a0 : (w.setCell ⟨k, 0, none⟩ v2).heap[k]? = some (.cells #[v2] t (0, 0)) := block_set (l := [v0]) h0 0 v2
  have oA : Only (· = k) w (w.setCell ⟨k, 0, none⟩ v2) := (Only.refl _ _).setCell _ _ (.inl rfl)
  have b1 := oA.kept h1 (show ¬ k + 1 = k by omega)
  have oB : Only (· = k + 1) (w.setCell ⟨k, 0, none⟩ v2) ((w.setCell ⟨k, 0, none⟩ v2).setCell ⟨k + 1, 0, none⟩ v3) := (Only.refl _ _).setCell _ _ (.inl rfl)
  have a1 := oB.kept a0 (show ¬ k = k + 1 by omega)
  have b2 : ((w.setCell ⟨k, 0, none⟩ v2).setCell ⟨k + 1, 0, none⟩ v3).heap[k + 1]? = some (.cells #[v3] t (0, 0)) := block_set (l := [v1]) b1 0 v3
  have sz : ((w.setCell ⟨k, 0, none⟩ v2).setCell ⟨k + 1, 0, none⟩ v3).heap.size = w.heap.size := by simp [World.setCell]
  obtain ⟨W, hW⟩ : ∃ W, W = ((w.setCell ⟨k, 0, none⟩ v2).setCell ⟨k + 1, 0, none⟩ v3) := ⟨_, rfl⟩
  rw [← hW] at a1 b2 sz oB ⊢
  refine ⟨block_drew (block_old (block_old a1)), block_drew (block_old (block_old b2)), ?_, ?_, ?_⟩
  · rw [← sz]; exact block_drew (block_old (heap_alloc_new W o1))
  · rw [← sz]; exact block_drew (heap_alloc2_new W o1 o2)
  · exact ((((oA.mono (fun b _ h => .inl h)).trans (oB.mono (fun b _ h => .inr h))).alloc o1).alloc o2).drew

set_option maxRecDepth 100000 in
set_option maxHeartbeats 4000000 in
theorem held_any (B : ByteArray) (n : PN) (sv : Value) (g cap : Nat) (l : List Str) (ps : List Part) (w : World) (hC : Ctx B w n sv g cap l ps) (hF : Forms w) (hne : 0 < ps.length) (hmod : ∀ s ∈ l, s.mod = 0)
    (hps : ∀ p ∈ ps, p.at_ + p.size ≤ 1000000) (hkd : ∀ p ∈ ps, p.kind ≠ 3 ∧ p.kind ≠ 4) (hfew : ps.length ≤ 3) (hl4 : l.length ≤ 400) (hf1 : ∀ e ∈ hitsL ps 1280 1024, ∀ s ∈ l, Far s e.1) (hf2 : ∀ e ∈ hitsL ps 768 256, ∀ s ∈ l, Far s e.1)
    (m0 : Nat → Bool) (hpos : ∀ i (hi : i < l.length), 0 ≤ l[i].at_ ∧ l[i].at_ ≤ 1000000 ∧ 0 ≤ l[i].size ∧ l[i].size ≤ 1000000) (hm0 : ∀ i (hi : i < l.length), m0 i = true ↔ ∃ z, RootS ps z ∧ l[i].at_ ≤ z ∧ z - l[i].at_ ≤ l[i].size)
    (o : Nat → Nat → Bool) (JJ : Nat → List InsR) (hown : ∀ i (hi : i < l.length), OwnOk ps l[i] (JJ i) ∧ ∀ k (hk : k < l.length), o i k = true ↔ ∃ z, OwnS ps l[i] (JJ i) z ∧ l[k].at_ ≤ z ∧ z - l[k].at_ ≤ l[k].size) :
    Calls Tryz.prog 38 #[.pointer (some ⟨n.p, 0, none⟩)] w fun e w' => Below w.heap.size w w' ∧ ∃ gs gm j, w.heap.size ≤ gs ∧ w.heap.size ≤ gm ∧ e = .returned (.tuple #[.slice (some ⟨gs, 0, none⟩) l.length l.length, .slice (some ⟨gm, 0, none⟩) 1 1]) ∧
      (iterH o l.length j (markS m0 (List.range l.length) (List.replicate l.length false, []))).2 = [] ∧
      w'.heap[gs]? = some (.cells ((iterH o l.length j (markS m0 (List.range l.length) (List.replicate l.length false, []))).1.map Value.bool).toArray 4 (0, 0)) ∧ w'.heap[gm]? = some (.cells #[.bool false] 4 (0, 0)) := by
  have HH := Lib.hid (And.intro hC (And.intro hF hmod))
  have HO := Lib.hid hown
  have HP := Lib.hid (And.intro hps (And.intro hkd (And.intro hf1 (And.intro hf2 (And.intro hpos hm0)))))
  clear hC hF hmod hps hkd hf1 hf2 hpos hm0 hown
  obtain ⟨i0, hi0, hz0, hz1, hz2⟩ := info_parts infoh
  go_enter Tryz.func38, Tryz.ntmps38
  go_wp2_with fail
  go_at_call 43
  refine (hof B n sv g cap l ps _ (HH.out.1.below (((Below.refl _ _).alloc (Nat.le_refl _) _).alloc (by simp) _)) hne).mono ?_
  rintro e w1 ⟨hb1, x, rfl, hv1⟩
  go_upto_region 2 with fail
  obtain ⟨vs, vn, vc, hsv⟩ := hv1.strs.slice
  have hvn : vn = l.length := by
    rcases hv1.strs with ⟨h, h'⟩ | ⟨g', c', h, _⟩
    · rw [h] at hsv; injection hsv with _ h2 _; rw [h', ← h2]; rfl
    · rw [h] at hsv; injection hsv with _ h2 _; exact h2.symm
  subst hvn
  have hl : l.length ≤ 1000 := HH.out.1.few
  have hm1 := mk_bools l.length hl
  have hm2 := mk_bools1
  have c1 := cell_l hv1.head 1 rfl
  have c2 := cell_l hv1.head 2 rfl
  rw [hsv] at c2
  have k2 : w1.heap[w.heap.size]? = some (.cells #[.slice none 0 0] 117 (0, 0)) := (hb1.block _ (by simp; omega)).trans (block_old (heap_alloc_new _ _))
  have k3 : w1.heap[w.heap.size + 1]? = some (.cells #[.slice none 0 0] 117 (0, 0)) := (hb1.block _ (by simp)).trans (by have := heap_alloc2_new w (.cells #[.slice none 0 0] 117) (.cells #[.slice none 0 0] 117); exact this)
  have d2 := cell_l k2 0 rfl
  have d3 := cell_l k3 0 rfl
  have p2 := free_in k2 0
  have p3 := free_in k3 0
  have n23 : w.heap.size ≠ w.heap.size + 1 := by omega
  have lx : x.v < w1.heap.size := lt_of_block hv1.head
  have l2 := lt_of_block k2
  have l3 := lt_of_block k3
  have H1 := Lib.hid (And.intro hb1 (And.intro hv1 (And.intro k2 k3)))
  clear hb1 hv1 k2 k3
  have e0 : (w1.alloc (.cells #[.bool false] 4)).heap.size = w1.heap.size + 1 := by simp
  go_cut [] from 17 to 28 (fun wr => Bools w1 w.heap.size l.length wr)
  case first =>
    go_big_region
    all_goals (go_wp2_with fail; go_meet)
    all_goals rw [rep_arr]
    · obtain ⟨q1, q2, q3, q4, q5⟩ := bools_set (v2 := .slice (some ⟨w1.heap.size, 0, none⟩) l.length l.length) (v3 := .slice (some ⟨w1.heap.size + 1, 0, none⟩) 1 1) H1.out.2.2.1 H1.out.2.2.2 (.cells (List.replicate l.length (Value.bool false)).toArray 4) (.cells #[.bool false] 4)
      exact ⟨_, _, q1, q2, q3, q4, by omega, by omega, by omega, q5⟩
    · obtain ⟨q1, q2, q3, q4, q5⟩ := bools_set (v2 := .slice (some ⟨w1.heap.size + 1, 0, none⟩) l.length l.length) (v3 := .slice (some ⟨w1.heap.size, 0, none⟩) 1 1) H1.out.2.2.1 H1.out.2.2.2 (.cells #[.bool false] 4) (.cells (List.replicate l.length (Value.bool false)).toArray 4)
      exact ⟨_, _, q1, q2, q4, q3, by omega, by omega, by omega, q5⟩
  case rest =>
    obtain ⟨gs, gm, r1, r2, r3, r4, r5, r6, r7, ro⟩ := hcut
    have hM1 : ∀ b, b = w.heap.size ∨ b = w.heap.size + 1 → OwnB w1 b := fun b hb => by
      rcases hb with rfl | rfl
      · exact ⟨_, _, _, H1.out.2.2.1, .inl rfl⟩
      · exact ⟨_, _, _, H1.out.2.2.2, .inl rfl⟩
    have hvc := H1.out.2.1.boxes ro (fun b _ hb => hM1 b hb)
    have bc : Below w.heap.size w wc := by
      have b1 : Below w.heap.size w w1 := (((Below.refl w.heap.size w).alloc (Nat.le_refl _) (.cells #[.slice none 0 0] 117)).alloc (by simp) (.cells #[.slice none 0 0] 117)).trans (H1.out.1.mono (by simp; omega))
      exact b1.trans (ro.below b1.size (fun k h => by omega))
    go_upto_region 5 with fail
    refine name_world fun W hW => ?_
    have bW : Below wc.heap.size wc W := by rw [← hW]; go_grown
    have kb : W.heap[wc.heap.size]? = some (.cells #[.func (.func 81) #[] #[.pointer (some ⟨w.heap.size, 0, none⟩), .pointer (some ⟨w.heap.size + 1, 0, none⟩)]] 177 (0, 0)) := by rw [← hW]; exact block_old (heap_alloc_new wc _)
    have kw : W.heap[wc.heap.size + 1]? = some (.cells #[.slice none 0 0] 178 (0, 0)) := by rw [← hW]; exact heap_alloc2_new wc _ _
    have hvW := hvc.below bW
    have HW := Lib.hid (And.intro hvW (And.intro (bc.trans (bW.mono bc.size)) (And.intro kb (And.intro kw (And.intro bW (And.intro r1 (And.intro r2 (And.intro r3 (And.intro r4 ro)))))))))
    have cs2 := cell_l hvW.head 2 rfl
    have cs1 := cell_l hvW.head 1 rfl
    rw [hsv] at cs2
    clear hW bW kb kw hvW hvc bc r1 r2 r3 r4 ro
    go_wp2_with fail
    clear cs2
    go_loopw [6, 8, 35] (fun v6 _ i wr => ∃ k : Nat, k ≤ l.length ∧ i = .int .i64 k ∧ wr.ownsRow W.heap.size 172 1 v6 k ((List.range k).map (hol x.v)) ∧ Below W.heap.size W wr) (fun _ _ i _ => l.length - (vI i).toNat)
    case atStart => exact ⟨0, Nat.zero_le _, rfl, World.ownsRow_nil _ _ _ _, Below.refl _ _⟩
    case round =>
      obtain ⟨k, hk, rfl, hrow, hbr⟩ := hrel
      by_cases hlt : k < l.length
      · have hvr := HW.out.1.below hbr
        obtain ⟨sg, sc, hsv2, hst⟩ := str_row hvr.strs (by omega)
        rw [hsv] at hsv2
        injection hsv2 with e1 e2 e3
        subst e1 e3
        have hmo := HH.out.2.2 _ (List.getElem_mem hlt)
        have HR := Lib.hid (And.intro hvr (And.intro hst (And.intro hrow (And.intro hbr hmo))))
        clear hvr hst hrow hbr hmo
        go_upto_region 8 with (first
          | (refine wpList_load_mid rfl 125 (.tmp 38) rfl sg (k * 7) rfl (strCells l[k]) _ (str_range HR.out.2.1 k hlt) Tryz.underlying125 rfl (str_len _) ?_)
          | ((with_reducible refine at_store_law ?_); refine wpList_store_row rfl 125 _ _ rfl _ _ rfl rfl _ _ (by (repeat (first | assumption | exact heap_alloc_new _ _ | refine block_old ?_ | refine block_drew ?_ | apply setRow_heap | (refine (setRow_other _ _ _ _ ?_).trans ?_; omega)))) (str_size _) (by rw [str_arr]; rfl) (str_all _) ?_; (try simp only [World.setRow_alloc_new])))
        refine name_world fun W3 hW3 => ?_
        have b3 : Below wr.heap.size wr W3 := by rw [← hW3]; exact (Below.refl _ _).alloc (Nat.le_refl _) _
        have c9 : W3.cell? ⟨wr.heap.size, 0, none⟩ = some (.int .i64 0) := by
          have k9 : W3.heap[wr.heap.size]? = some (.cells (strCells l[k]).toArray 125 (0, 0)) := by rw [← hW3]; exact heap_alloc_new _ _
          rw [← HR.out.2.2.2.2]; exact cell_l k9 0 rfl
        have r3 := ownsRow_below' HR.out.2.2.1 b3
        have H3 := Lib.hid (And.intro (HR.out.1.below b3) (And.intro r3 (HR.out.2.2.2.1.trans (b3.mono HR.out.2.2.2.1.size))))
        have l3' := H3.out.2.2.size
        clear hW3 b3 r3
        go_wp2_with fail
        go_at_call 82
        refine (vmapped B x n.p l ps 0 W3 H3.out.1).mono ?_
        rintro e w4 ⟨rfl, rfl⟩
        clear c9
        go_wp2_with (first
          | (at_builtin; refine wpList_append_own_at _ rfl _ _ 178 rfl W.heap.size 172 i0 .nilIface 1 16 Tryz.underlying178 hi0 hz0 hz1 hz2 rfl (by decide) _ _ _ rfl (H3.out.2.1.alloc _) ⟨w4.heap.size, 0, none⟩ 1 1 [hol x.v k] rfl rfl (cell_one_new _ _ _) (by intro u hu; rw [List.mem_singleton] at hu; rw [hu]; rfl) (by unfold maxLen; omega) (by omega) (by simp; omega) ?_; intro v' w5 hown5 hgrow5 hnil5 hloc5; clear hnil5 hloc5; have H5 := Lib.hid (And.intro hown5 hgrow5); clear hown5 hgrow5)
          | fail)
        go_roundw
        case rel =>
          refine ⟨k + 1, by omega, by go_num, ?_, (H3.out.2.2.alloc l3' _).grown H5.out.2 (by simp; omega) (fun j hj => (HR.out.2.2.1.lt j hj).1)⟩
          rw [List.range_succ, List.map_append]
          exact H5.out.1
        case measure => simp [vI]; omega
      · obtain rfl : k = l.length := by omega
        have hvr := HW.out.1.below hbr
        have q1 := cell_l hvr.head 1 rfl
        have HR := Lib.hid (And.intro hvr (And.intro hrow hbr))
        have lr := hbr.size
        clear hvr hrow hbr cs1
        go_wp2_with fail
        refine wp_loop_rounds 2 ?_
        rw [rounds_succ]
        go_wp2_with fail
        go_at_call 83
        refine (vclosed B x n.p l ps 0 wr HR.out.1).mono ?_
        rintro e w4 ⟨rfl, rfl⟩
        go_wp2
        rw [rounds_succ]
        go_wp2_with fail
        go_at_call 85
        refine (hroots B n sv g cap l ps x w4 HR.out.1 (HH.out.1.below (HW.out.2.1.trans (HR.out.2.2.mono HW.out.2.1.size))) HP.out.1 HP.out.2.1 hfew HP.out.2.2.1 HP.out.2.2.2.1 hl).mono ?_
        rintro e w5 ⟨br, rfl, hs5, hbr5, hb5⟩
        have H5 := Lib.hid (And.intro hs5 (And.intro (HR.out.1.below hb5) (And.intro (ownsRow_below' HR.out.2.1 hb5) (HR.out.2.2.trans (hb5.mono lr)))))
        have l5 := hb5.size
        clear hs5 hb5
        go_upto_region 19 with fail
        refine name_world fun W6 hW6 => ?_
        have b6 : Below w5.heap.size w5 W6 := by rw [← hW6]; exact (Below.refl _ _).alloc (Nat.le_refl _) _
        have kq : W6.heap[w5.heap.size]? = some (.cells #[.map (some br)] 127 (0, 0)) := by rw [← hW6]; exact heap_alloc_new _ _
        have bW6 : Below W.heap.size W W6 := H5.out.2.2.2.trans (b6.mono (Nat.le_trans lr l5))
        have lW6 := bW6.size
        have hst0 : HState W6 x.v wc.heap.size (wc.heap.size + 1) w.heap.size (w.heap.size + 1) gs W6.heap.size (List.replicate l.length false, []) := by
          obtain ⟨-, -, kb, kw, bW, r1, r2, r3, r4, ro⟩ := HW.out
          have go : ∀ k o, k < W.heap.size → W.heap[k]? = some o → W6.heap[k]? = some o := fun k o hk h => (bW6.block k hk).trans h
          have gc : ∀ k o, wc.heap[k]? = some o → W6.heap[k]? = some o := fun k o h => go k o (Nat.lt_of_lt_of_le (lt_of_block h) bW.size) ((bW.block k (lt_of_block h)).trans h)
          refine ⟨go _ _ (lt_of_block kb) kb, ?_, ?_, ⟨_, go _ _ (lt_of_block kw) kw, World.ownsRow_nil _ _ _ _⟩, lt_of_block (gc _ _ r3), lt_of_block (go _ _ (lt_of_block kw) kw), lt_of_block (gc _ _ r1), lt_of_block (go _ _ (lt_of_block kb) kb), Nat.le_refl _⟩
          · rw [List.length_replicate]; exact gc _ _ r1
          · rw [List.map_replicate]; exact gc _ _ r3
        have lgs : gs < wc.heap.size := lt_of_block HW.out.2.2.2.2.2.2.2.1
        have lcW : wc.heap.size + 1 < W.heap.size := lt_of_block HW.out.2.2.2.1
        have hdd : gs ≠ wc.heap.size + 1 ∧ w.heap.size ≠ gs ∧ w.heap.size ≠ wc.heap.size + 1 ∧ wc.heap.size ≠ gs ∧ wc.heap.size ≠ wc.heap.size + 1 := by omega
        have hv6 := H5.out.2.1.below b6
        have hs6 := H5.out.1.below b6
        have ha6 := ownsRow_below' H5.out.2.2.1 b6
        have hown6 : ∀ k, k < W6.heap.size → (k = gs ∨ k = wc.heap.size + 1 ∨ (W6.heap.size ≤ k ∧ ∃ cs fr, W6.heap[k]? = some (Obj.cells cs 172 fr))) → OwnB W6 k := fun k hk h => by
          obtain ⟨wv, hw1, _⟩ := hst0.work
          rcases h with rfl | rfl | ⟨h, _⟩
          · exact ⟨_, _, _, hst0.bools, .inr (.inl rfl)⟩
          · exact ⟨_, _, _, hw1, .inr (.inr (.inl rfl))⟩
          · omega
        have H6 := Lib.hid (And.intro hv6 (And.intro hs6 (And.intro ha6 (And.intro hst0 (And.intro hown6 (And.intro kq bW6))))))
        clear hv6 hs6 ha6 hst0 hown6 kq bW6 b6 hW6
        go_wp2_with fail
        go_at_call 84
        refine (hold_all3 B x n.p br 900000 w5.heap.size wc.heap.size (wc.heap.size + 1) w.heap.size (w.heap.size + 1) gs W6.heap.size l ps (RootS ps) m0 u6 (List.replicate l.length false, []) W6 H6.out.1 H6.out.2.1 H6.out.2.2.2.2.2.1 H6.out.2.2.2.1 (ownsRow_lower H6.out.2.2.1 (Nat.zero_le _)) (fun ga h => (H6.out.2.2.1.lt ga h).2) (by simp) HP.out.2.2.2.2.1 HP.out.2.2.2.2.2 ?_ (by simp; omega) hdd).mono ?_
        · intro W7 h7
          refine ⟨H6.out.1.boxes h7 H6.out.2.2.2.2.1, H6.out.2.1.only h7 (fun hs => ?_), h7.kept H6.out.2.2.2.2.2.1 (fun hs => own_ne H6.out.2.2.2.2.2.1 (H6.out.2.2.2.2.1 _ (lt_of_block H6.out.2.2.2.2.2.1) hs) (by decide) (by decide) (by decide) (by decide)), row_only (ownsRow_lower H6.out.2.2.1 (Nat.zero_le _)) h7 (fun ga hga hs => ?_)⟩
          · obtain ⟨cs, t, fr, hx, _⟩ := H6.out.2.2.2.2.1 _ H6.out.2.1.lt hs
            exact cells_ne hx (SetAt.mapB H6.out.2.1) rfl
          · obtain ⟨cs, fr, hx⟩ := own_cells H6.out.2.2.1 hga
            have hlt := lt_of_block hx
            obtain ⟨wv, hw1, _⟩ := H6.out.2.2.2.1.work
            rcases hs with rfl | rfl | ⟨h, _⟩
            · rw [H6.out.2.2.2.1.bools] at hx
              simp at hx
            · rw [hw1] at hx
              simp at hx
            · omega
        rintro e w7 ⟨rfl, hst7, hef7⟩
        have hkp : ∀ W7, Eff gs (wc.heap.size + 1) W6.heap.size W6 W7 → ViewAt B W7 x n.p l ps ∧ W7.ownsRow 0 172 1 u6 l.length ((List.range l.length).map (hol x.v)) ∧ Below w.heap.size w W7 := by
          intro W7 h7
          refine ⟨H6.out.1.boxes h7 H6.out.2.2.2.2.1, row_only (ownsRow_lower H6.out.2.2.1 (Nat.zero_le _)) h7 (fun ga hga hs => ?_), (HW.out.2.1.trans (H6.out.2.2.2.2.2.2.mono HW.out.2.1.size)).trans (Only.below h7 (by have := HW.out.2.1.size; omega) (fun k hk => ?_))⟩
          · obtain ⟨cs, fr, hx⟩ := own_cells H6.out.2.2.1 hga
            have hlt := lt_of_block hx
            obtain ⟨wv, hw1, _⟩ := H6.out.2.2.2.1.work
            rcases hs with rfl | rfl | ⟨h, _⟩
            · rw [H6.out.2.2.2.1.bools] at hx
              simp at hx
            · rw [hw1] at hx
              simp at hx
            · omega
          · have := HW.out.2.1.size
            rcases hk with rfl | rfl | ⟨h, _⟩
            · have := H1.out.1.size; simp at this; omega
            · have := (HW.out.2.2.2.2.1).size; have := H1.out.1.size; simp at this; omega
            · omega
        have HKP := Lib.hid hkp
        clear hkp
        have H7 := Lib.hid (And.intro hst7 hef7)
        clear hst7 hef7
        obtain ⟨st1, hst1⟩ : ∃ st1, st1 = markS m0 (List.range l.length) (List.replicate l.length false, []) := ⟨_, rfl⟩
        have HS1 := Lib.hid hst1
        go_wp2_with fail
        go_loopw [13, 14] (fun _ _ wr => ∃ j : Nat, HState wr x.v wc.heap.size (wc.heap.size + 1) w.heap.size (w.heap.size + 1) gs W6.heap.size (iterH o l.length j st1) ∧ Eff gs (wc.heap.size + 1) W6.heap.size W6 wr) (fun _ _ wr => measW gs (wc.heap.size + 1) wr)
        case atStart => exact ⟨0, by rw [HS1.out]; exact H7.out.1, H7.out.2⟩
        case round =>
          obtain ⟨j, hst, hef⟩ := hrel
          have hok : StOk l.length (iterH o l.length j st1) := (by rw [HS1.out]; exact ((StOk.first l.length).marks m0).iter o j)
          obtain ⟨st, hsj⟩ : ∃ st, st = iterH o l.length j st1 := ⟨_, rfl⟩
          rw [← hsj] at hst hok
          obtain ⟨wv, hw1, hw2⟩ := hst.work
          have HJ := Lib.hid (And.intro hsj (And.intro hst (And.intro hef hok)))
          clear hsj hst hef hok hst1
          by_cases hz : st.2 = []
          · obtain ⟨a9, c9, rfl⟩ := slice_len hw2
            have hlen : st.2.length = 0 := by rw [hz]; rfl
            rw [hlen] at hw1
            have cw := cell_l hw1 0 rfl
            have ob1 := HJ.out.2.1.box1
            have ob2 : wr.heap[w.heap.size + 1]? = some (.cells #[.slice (some ⟨gm, 0, none⟩) 1 1] 117 (0, 0)) := by
              obtain ⟨-, -, -, -, bW, -, r2, -, -, -⟩ := HW.out
              have l2 := lt_of_block r2
              have e1 := (bW.block _ l2).trans r2
              have e2 := (H6.out.2.2.2.2.2.2.block _ (Nat.lt_of_lt_of_le l2 bW.size)).trans e1
              refine HJ.out.2.2.1.kept e2 (fun hs => ?_)
              have := lt_of_block e2
              have := H1.out.1.size
              simp at this
              rcases hs with h | h | ⟨h, _⟩ <;> omega
            have ogm : wr.heap[gm]? = some (.cells #[.bool false] 4 (0, 0)) := by
              obtain ⟨-, -, -, -, bW, -, -, -, r4, -⟩ := HW.out
              have l2 := lt_of_block r4
              have e1 := (bW.block _ l2).trans r4
              have e2 := (H6.out.2.2.2.2.2.2.block _ (Nat.lt_of_lt_of_le l2 bW.size)).trans e1
              refine HJ.out.2.2.1.kept e2 (fun hs => ?_)
              have := lt_of_block e2
              rcases hs with h | h | ⟨h, _⟩ <;> omega
            have q1 := cell_l ob1 0 rfl
            have q2 := cell_l ob2 0 rfl
            have p1 := free_in ob1 0
            have p2 := free_in ob2 0
            have HQ := Lib.hid (And.intro ob1 (And.intro ob2 ogm))
            clear ob1 ob2 ogm hw1 hw2 hlen
            go_wp2_with fail
            go_big_region
            all_goals go_wp2
            obtain ⟨hsj, hst, hef, hok⟩ := HJ.out
            obtain ⟨ob1, ob2, ogm⟩ := HQ.out
            have n12 : ¬ w.heap.size = w.heap.size + 1 := by omega
            have n21 : ¬ w.heap.size + 1 = w.heap.size := by omega
            have kA := block_set (l := [_]) ob1 0 (.slice (some ⟨gs, 0, none⟩) st.1.length st.1.length)
            have oA : Only (· = w.heap.size) wr (wr.setCell ⟨w.heap.size, 0, none⟩ (.slice (some ⟨gs, 0, none⟩) st.1.length st.1.length)) := (Only.refl _ _).setCell _ _ (.inl rfl)
            have kB := block_set (l := [_]) (oA.kept ob2 n21) 0 (.slice (some ⟨gm, 0, none⟩) 1 1)
            obtain ⟨WA, hWA⟩ : ∃ WA, WA = wr.setCell ⟨w.heap.size, 0, none⟩ (.slice (some ⟨gs, 0, none⟩) st.1.length st.1.length) := ⟨_, rfl⟩
            rw [← hWA] at kA oA kB ⊢
            have oB : Only (· = w.heap.size + 1) WA (WA.setCell ⟨w.heap.size + 1, 0, none⟩ (.slice (some ⟨gm, 0, none⟩) 1 1)) := (Only.refl _ _).setCell _ _ (.inl rfl)
            have kC := oB.kept kA n12
            obtain ⟨WB, hWB⟩ : ∃ WB, WB = WA.setCell ⟨w.heap.size + 1, 0, none⟩ (.slice (some ⟨gm, 0, none⟩) 1 1) := ⟨_, rfl⟩
            rw [← hWB] at kB oB kC ⊢
            refine bodyPost_ret (results_slices rfl _ _ w.heap.size (w.heap.size + 1) (some ⟨gs, 0, none⟩) (some ⟨gm, 0, none⟩) st.1.length 1 st.1.length 1 rfl (cell_l (block_drew kC) 0 rfl) rfl (cell_l (block_drew kB) 0 rfl)) rfl ?_
            have oS : Only (fun b => b = w.heap.size ∨ b = w.heap.size + 1) wr WB := (oA.mono (fun b _ h => .inl h)).trans (oB.mono (fun b _ h => .inr h))
            have lgs := hst.gsb
            have hw1s := H1.out.1.size
            simp at hw1s
            refine ⟨((HKP.out _ hef).2.2).trans (oS.drew.below (HKP.out _ hef).2.2.size (fun k hk => by rcases hk with hk | hk <;> omega)), gs, gm, j, by omega, by omega, by rw [hok.len], by rw [← HS1.out, ← hsj]; exact hz, ?_, ?_⟩
            · rw [← HS1.out, ← hsj]
              exact oS.drew.kept hst.bools (fun hk => by rcases hk with hk | hk <;> omega)
            · exact oS.drew.kept ogm (fun hk => by rcases hk with hk | hk <;> omega)
          · obtain ⟨m, hm⟩ : ∃ m, st.2.length = m + 1 := ⟨st.2.length - 1, by have := List.length_pos_iff.2 hz; omega⟩
            obtain ⟨g9, c9, rfl⟩ := row_some hw2 (by omega)
            rw [hm] at hw1 hw2
            obtain ⟨i, hi⟩ : ∃ i, st.2[m]? = some i := ⟨_, List.getElem?_eq_getElem (by omega)⟩
            have hci := (row_cell hw2 m (by rw [List.getElem?_map, hi]; rfl)).1
            have cw := cell_l hw1 0 rfl
            have fw := free_in hw1 0
            have hil : i < l.length := HJ.out.2.2.2.work _ (List.mem_of_getElem? hi)
            have hmc1 : m + 1 ≤ c9 := by
              rcases hw2.2 with ⟨h, _⟩ | ⟨_, _, _, h, _, _, h4, _⟩
              · cases h
              · injection h with _ _ e3; omega
            have hmc : m ≤ c9 := by omega
            have hc9 : ¬ c9 = 0 := by omega
            have hml : m + 1 ≤ l.length := by have := HJ.out.2.2.2.room; omega
            have HM := Lib.hid (And.intro hw1 (And.intro hw2 (And.intro hi hm)))
            clear hw1 hw2 hi hm hz
            go_upto_region 23 with fail
            refine name_world fun W8 hW8 => ?_
            have s8 : HState W8 x.v wc.heap.size (wc.heap.size + 1) w.heap.size (w.heap.size + 1) gs W6.heap.size (st.1, st.2.dropLast) := by rw [← hW8]; exact HJ.out.2.1.pop hdd HM.out.1 HM.out.2.1
            have ef8 : Eff gs (wc.heap.size + 1) W6.heap.size W6 W8 := by rw [← hW8]; exact HJ.out.2.2.1.trans ((Only.refl _ _).setCell _ _ (.inl (.inr (.inl rfl))))
            obtain ⟨v8, a8, b8⟩ := HKP.out _ ef8
            obtain ⟨ook, oiff⟩ := HO.out i hil
            have H8 := Lib.hid (And.intro s8 (And.intro ef8 (And.intro v8 (And.intro b8 (And.intro ook oiff)))))
            clear hW8 s8 ef8 v8 a8 b8 ook oiff cw fw hci hmc1 hmc hc9
            unfold hol
            go_wp2_with fail
            go_at_call 401
            refine (sown B n sv g cap i l ps x (JJ i) W8 H8.out.2.2.1 (HH.out.1.below H8.out.2.2.2.1) (HH.out.2.1.below H8.out.2.2.2.1) hil H8.out.2.2.2.2.1.kind (HP.out.2.2.2.2.1 i hil).1 H8.out.2.2.2.2.1.h8 H8.out.2.2.2.2.1.h2 H8.out.2.2.2.2.1.h3 HP.out.1 (by omega) H8.out.2.2.2.2.1.len H8.out.2.2.2.2.1.dec H8.out.2.2.2.2.1.few).mono ?_
            rintro e w9 ⟨bo, rfl, hs9, hbo, hb9⟩
            have H9 := Lib.hid (And.intro hs9 (And.intro (H8.out.1.below hb9) (H8.out.2.1.trans (Eff.below hb9))))
            clear hs9 hbo hb9
            go_upto_region 24 with fail
            refine name_world fun W10 hW10 => ?_
            have b10 : Below w9.heap.size w9 W10 := by rw [← hW10]; exact (Below.refl _ _).alloc (Nat.le_refl _) _
            have kq10 : W10.heap[w9.heap.size]? = some (.cells #[.map (some bo)] 127 (0, 0)) := by rw [← hW10]; exact heap_alloc_new _ _
            have s10 := H9.out.2.1.below b10
            have ef10 := H9.out.2.2.trans (Eff.below b10)
            have hs10 := H9.out.1.below b10
            obtain ⟨v10, a10, bb10⟩ := HKP.out _ ef10
            have ga10 : ∀ ga, u6.ownBlock = some ga → ga < W6.heap.size := fun ga h => (H6.out.2.2.1.lt ga h).2
            have hkq : ∀ W7, Eff gs (wc.heap.size + 1) W6.heap.size W10 W7 → ViewAt B W7 x n.p l ps ∧ SetAt W7 bo 900000 (OwnS ps l[i] (JJ i)) ∧ W7.heap[w9.heap.size]? = some (.cells #[.map (some bo)] 127 (0, 0)) ∧ W7.ownsRow 0 172 1 u6 l.length ((List.range l.length).map (hol x.v)) := by
              intro W7 h7
              obtain ⟨q1, q2, _⟩ := HKP.out _ (ef10.trans h7)
              refine ⟨q1, hs10.only h7 (fun hs => ?_), h7.kept kq10 (fun hs => own_ne kq10 (s10.own _ (lt_of_block kq10) hs) (by decide) (by decide) (by decide) (by decide)), q2⟩
              obtain ⟨cs, t, fr, hx, _⟩ := s10.own _ hs10.lt hs
              exact cells_ne hx (SetAt.mapB hs10) rfl
            have H10 := Lib.hid (And.intro s10 (And.intro ef10 (And.intro hs10 (And.intro v10 (And.intro a10 (And.intro kq10 (And.intro hkq ga10)))))))
            clear s10 ef10 hs10 v10 a10 bb10 kq10 hkq ga10 b10 hW10
            go_wp2_with fail
            go_at_call 84
            refine (hold_all4 B x n.p bo 900000 w9.heap.size wc.heap.size (wc.heap.size + 1) w.heap.size (w.heap.size + 1) gs W6.heap.size l ps (OwnS ps l[i] (JJ i)) (o i) u6 (st.1, st.2.dropLast) W10 H10.out.2.2.2.1 H10.out.2.2.1 H10.out.2.2.2.2.2.1 H10.out.1 H10.out.2.2.2.2.1 H10.out.2.2.2.2.2.2.2 HJ.out.2.2.2.len HP.out.2.2.2.2.1 H8.out.2.2.2.2.2 H10.out.2.2.2.2.2.2.1 (by have := HM.out.2.2.2; simp only [List.length_dropLast]; omega) hdd).mono ?_
            rintro e w11 ⟨rfl, hst11, hef11⟩
            have H11 := Lib.hid (And.intro hst11 (And.intro (H10.out.2.1.trans hef11) (HKP.out _ (H10.out.2.1.trans hef11)).1))
            clear hst11 hef11
            go_wp2_with fail
            go_at_call 399
            refine (skeeps B n.p i l ps x w11 H11.out.2.2 hil).mono ?_
            rintro e w12 ⟨rfl, hb12⟩
            have H12 := Lib.hid (And.intro (H11.out.1.below hb12) (H11.out.2.1.trans (Eff.below hb12)))
            clear hb12
            go_wp2_with fail
            go_at_call 84
            refine (hold2_nil _ _ _ w12).mono ?_
            rintro e w13 ⟨rfl, rfl⟩
            have hnx : iterH o l.length (j + 1) st1 = markS (o i) (List.range l.length) (st.1, st.2.dropLast) := by
              show stepH o l.length (iterH o l.length j st1) = _
              rw [← HJ.out.1]
              exact step_snoc _ _ _ _ (by rw [List.getLast?_eq_getElem?, HM.out.2.2.2]; exact HM.out.2.2.1)
            have hms : measW gs (wc.heap.size + 1) w13 < measW gs (wc.heap.size + 1) wr := by
              rw [meas_eq HJ.out.2.1, meas_eq H12.out.1]
              refine Nat.lt_of_le_of_lt (marks_meas _ _ _) ?_
              have := HM.out.2.2.2
              unfold measS
              simp only [List.length_dropLast]
              omega
            have HN := Lib.hid (And.intro hnx hms)
            clear hnx hms
            go_wp2_with fail
            go_roundw
            case rel => exact ⟨j + 1, by rw [HN.out.1]; exact H12.out.1, H12.out.2⟩
            case measure => exact HN.out.2
end Go.Proofs.YtkbilipgidcgeaaGreatDoor.Tiny
