/- dump: Read. -/
import Derived.Test.YtacaejpamidkcaaGreatDoorR41
set_option linter.unusedVariables false
set_option linter.unusedSimpArgs false
set_option maxRecDepth 100000
set_option maxHeartbeats 2000000
namespace Go.Proofs.YtacaejpamidkcaaGreatDoor
section
open Go.RowKit Wire
attribute [local go_sem] ak_ af_
theorem q0_ {α : Type} {cells : α → List Value} {size : Nat} : ∀ (l : List α), (∀ x ∈ l, (cells x).length = size) → ∀ (i : Nat) (h : i < l.length) (j : Nat) (u : Value), (cells l[i])[j]? = some u → (l.flatMap cells)[i * size + j]? = some u
 | [], _, i, h, _, _, _ => absurd h (Nat.not_lt_zero _)
 | x :: l, hc, 0, _, j, u, hj => by
  have hj' : (cells x)[j]? = some u := hj
  rw [List.flatMap_cons, Nat.zero_mul, Nat.zero_add, List.getElem?_append_left (List.getElem?_eq_some_iff.1 hj').1]
  exact hj'
 | x :: l, hc, i + 1, h, j, u, hj => by
  have hx := hc x (by simp)
  rw [List.flatMap_cons, List.getElem?_append_right (by rw [hx, Nat.succ_mul]; omega), hx, show (i + 1) * size + j - size = i * size + j by rw [Nat.succ_mul]; omega]
  exact q0_ l (fun y hy => hc y (List.mem_cons_of_mem _ hy)) i (by simpa using h) j u hj
theorem l4_ {α : Type} {R : World → List Value → α → Prop} {cells : α → List Value} {w : World} {base lo : Nat} {e : TypeId} {size : Nat} {v : Value} {l : List α} (h : w.ownsRow base e size v l.length (l.flatMap cells)) (hlo : lo ≤ base) (hc : ∀ x ∈ l, (cells x).length = size) (hR : ∀ x ∈ l, R w (cells x) x) : RowV size lo R w v l := by
 rcases h.2 with ⟨h1, h2⟩ | ⟨g, cap, cur, h1, h2, h3, _⟩
 · exact .inl ⟨List.eq_nil_of_length_eq_zero h2, _, _, h1⟩
 · refine .inr ⟨g, 0, cap, h1, by omega, lt_of_block h3, fun i hi => ⟨cells l[i], hR _ (List.getElem_mem hi), fun j u hj => ?_⟩⟩
   have h4 := h
   rw [h1] at h4
   have := (row_cell h4 (i * size + j) (q0_ l hc i hi j u hj)).1
   rw [Nat.zero_add]
   exact this
theorem thrV_of {w : World} {base lo : Nat} {v : Value} {l : List ThrD} {xs : List Value} (h : w.ownsRow base 73 22 v l.length xs) (hlo : lo ≤ base) (ht : fp_ base w l xs) : RowV 22 lo (thrR lo) w v l := by
 rcases h.2 with ⟨h1, h2⟩ | ⟨g, cap, cur, h1, h2, h3, _⟩
 · exact .inl ⟨List.eq_nil_of_length_eq_zero h2, _, _, h1⟩
 · refine .inr ⟨g, 0, cap, h1, by omega, lt_of_block h3, fun i hi => ?_⟩
   obtain ⟨u, a, b, c, d⟩ := ht i hi
   refine ⟨fv_ l[i] u, ⟨u, rfl, b, l4_ (cells := do_) c hlo (fun x hx => by unfold do_; rw [List.length_map]; exact d x hx) (fun x hx => ⟨rfl, d x hx⟩)⟩, fun j x hj => ?_⟩
   have h4 := h
   rw [h1] at h4
   have := (row_cell h4 (i * 22 + j) (a j x hj)).1
   rw [Nat.zero_add]
   exact this
theorem hs_ {w : World} {base : Nat} {e : TypeId} {size : Nat} {v : Value} {n : Nat} {xs : List Value} (h : w.ownsRow base e size v n xs) : ∃ a n c, v = .slice a n c := by
 rcases h.2 with ⟨h1, _⟩ | ⟨g, cap, cur, h1, _⟩
 · exact ⟨_, _, _, h1⟩
 · exact ⟨_, _, _, h1⟩
attribute [local irreducible] repS cpuS modS strS chkS thrS du_
def i1_ (l : List UInt8) (w : World) (e : Ending) (w' : World) : Prop :=
 Below w.heap.size w w' ∧ ∃ v, e = .returned (.tuple #[v, .bool (fn_ l)]) ∧ if fn_ l = true then et_ w.heap.size w' v (iq_ l).1 else v = .agg #[.slice none 0 0, .slice none 0 0, .slice none 0 0, .slice none 0 0]
theorem dread (l : List UInt8) (hl : l.length ≤ 68719476736) (w : World) : Calls Tryz.prog 7 #[strB l] w (i1_ l w) := by
 obtain ⟨a1, s1, e1⟩ : ∃ v t, du_ modS ⟨l, false, false⟩ = (v, t) := ⟨_, _, rfl⟩
 obtain ⟨a2, s2, e2⟩ : ∃ v t, du_ strS s1 = (v, t) := ⟨_, _, rfl⟩
 obtain ⟨a3, s3, e3⟩ : ∃ v t, du_ thrS s2 = (v, t) := ⟨_, _, rfl⟩
 obtain ⟨a4, s4, e4⟩ : ∃ v t, du_ chkS s3 = (v, t) := ⟨_, _, rfl⟩
 have hfin : iq_ l = ((a1, a2, a3, a4), s4) := by
  unfold iq_ o3_
  simp only [dn_, e1, e2, e3, e4]
 have l1 := l0_ qt_ ⟨l, false, false⟩
 have l2 := l0_ qu_ s1
 have l3 := l0_ qv_ s2
 rw [e1] at l1; rw [e2] at l2; rw [e3] at l3
 dsimp only at l1 l2 l3
 have E1 := h1_ e1
 have E2 := h1_ e2
 have E3 := h1_ e3
 have E4 := h1_ e4
 have HF := h1_ hfin
 clear e1 e2 e3 e4 hfin
 have hsb : strB l = .string ⟨l.toArray⟩ := rfl
 go_enter Tryz.func7, Tryz.ntmps7
 go_wp2_with fail
 go_at_call 20
 have Z0 : ∃ Z : Array Value, Z = #[.slice none 0 0, .slice none 0 0, .slice none 0 0, .slice none 0 0] := ⟨_, rfl⟩
 have vB : Below w.heap.size w (w.alloc (Obj.cells #[.slice none 0 0, .slice none 0 0, .slice none 0 0, .slice none 0 0] 27)) := (Below.refl _ _).alloc (Nat.le_refl _) _
 have vk := heap_alloc_new w (Obj.cells #[.slice none 0 0, .slice none 0 0, .slice none 0 0, .slice none 0 0] 27)
 rw [← hsb]
 refine (ropen l _).mono ?_
 rintro e w1 ⟨rfl, hb1, hw1, hl1⟩
 have k1 := (hb1.block _ (by simp)).trans vk
 have b1 := vB.trans (hb1.mono vB.size)
 have H1 := h3_ b1 hw1 k1
 have lw1 : w.heap.size + 1 < w1.heap.size := by simpa using hl1
 clear vB vk hb1 hw1 hl1 k1 b1 hsb Z0
 go_upto_region 2 with fail
 refine ac_ fun X hX => ?_
 obtain ⟨b1, hw1, k1⟩ := H1.out
 have xB1 : Below w1.heap.size w1 X := by rw [← hX]; go_grown
 have xd : DR X w1.heap.size (w.heap.size + 1) ⟨l, false, false⟩ := by
  rw [← hX]
  refine ⟨heap_alloc_new _ _, ?_, by show l.length ≤ _; omega⟩
  have := hw1
  simp at this
  exact ae_ this
 have xk := (xB1.block _ (by omega)).trans k1
 have xB := b1.trans (xB1.mono b1.size)
 have lX : w1.heap.size < X.heap.size := lt_of_block xd.head
 have HX := h3_ xB xd xk
 clear b1 hw1 k1 xB1 xd xk xB hX H1
 generalize hq : w.heap.size + 1 = q at *
 generalize hqd : w1.heap.size = qd at *
 have HQ := h2_ hq hqd
 clear hq hqd
 go_wp2_with fail
 go_at_call 21
 refine (vj_ qd q _ hl _ HX.out.2.1).mono ?_
 rintro e w2 ⟨v1, rfl, ho2, hd2, hown2⟩
 rw [E1.out] at hd2 hown2
 have H2 := h3_ ho2 hd2 hown2
 clear ho2 hd2 hown2
 dsimp only
 go_wp2_with fail
 go_at_call 23
 refine (vk_ qd q _ (by omega) _ H2.out.2.1).mono ?_
 rintro e w3 ⟨v2, rfl, ho3, hd3, hown3⟩
 rw [E2.out] at hd3 hown3
 have H3 := h3_ ho3 hd3 hown3
 clear ho3 hd3 hown3
 dsimp only
 go_wp2_with fail
 go_at_call 25
 refine (vi_ qd q _ (by omega) _ H3.out.2.1).mono ?_
 rintro e w4 ⟨v3, xs3, rfl, ho4, hd4, hown4, hthr4⟩
 rw [E3.out] at hd4 hown4 hthr4
 have H4 := h4_ ho4 hd4 hown4 hthr4
 clear ho4 hd4 hown4 hthr4
 dsimp only
 go_wp2_with fail
 go_at_call 27
 refine (vl_ qd q _ (by omega) _ H4.out.2.1).mono ?_
 rintro e w5 ⟨v4, rfl, ho5, hd5, hown5⟩
 rw [E4.out] at hd5 hown5
 have y1 := hd5.c1
 have y0 := hd5.c0
 have H5 := h3_ ho5 hd5 hown5
 clear ho5 hd5 hown5
 dsimp only
 have u1 := hs_ H2.out.2.2
 have u2 := hs_ H3.out.2.2
 have u3 := hs_ H4.out.2.2.1
 have u4 := hs_ H5.out.2.2
 obtain ⟨p1, n1, c1, r1⟩ := u1
 obtain ⟨p2, n2, c2, r2⟩ := u2
 obtain ⟨p3, n3, c3, r3⟩ := u3
 obtain ⟨p4, n4, c4, r4⟩ := u4
 subst r1 r2 r3 r4
 go_upto_region 3 with ((with_reducible refine ad_ ?_); refine sr_ rfl rfl (h := ?_); (try simp only [World.setRow_alloc_new]))
 refine ac_ fun Z hZ => ?_
 obtain ⟨xB, xd, xk⟩ := HX.out
 obtain ⟨ho2, hd2, hown2⟩ := H2.out
 obtain ⟨ho3, hd3, hown3⟩ := H3.out
 obtain ⟨ho4, hd4, hown4, hthr4⟩ := H4.out
 obtain ⟨ho5, hd5, hown5⟩ := H5.out
 have hqq := HQ.out
 have hx2 : ∀ b, DS qd q b → b < X.heap.size := fun b hb => by rcases hb with rfl | rfl; exact xd.lq; exact xd.lqd
 have l23 := ho2.size
 have l34 := ho3.size
 have l45 := ho4.size
 have l56 := ho5.size
 have nk : ¬ DS qd q w.heap.size := by rintro (h | h) <;> omega
 have zB1 : Below w5.heap.size w5 Z := by rw [← hZ]; go_grown
 have o2 := ar_ (ar_ (ar_ hown2 ho3 hx2) ho4 hx2) ho5 hx2
 have o3 := ar_ (ar_ hown3 ho4 (fun b hb => by have := hx2 b hb; omega)) ho5 (fun b hb => by have := hx2 b hb; omega)
 have o4 := ar_ hown4 ho5 (fun b hb => by have := hx2 b hb; omega)
 have t4 : fp_ w3.heap.size w5 a3 xs3 := hthr4.keep (fun g cur fr hg hc => ho5.kept hc (fun hb => by have := hx2 g hb; omega))
 have zo : Only (DS qd q) X w5 := ((ho2.trans ho3).trans ho4).trans ho5
 have zD : et_ X.heap.size Z (.agg #[.slice p1 n1 c1, .slice p2 n2 c2, .slice p3 n3 c3, .slice p4 n4 c4]) (a1, a2, a3, a4) := by
  refine et_.below ⟨_, _, _, _, rfl, ?_, ?_, ?_, ?_⟩ zB1
  · exact l4_ (cells := fb_) o2 (Nat.le_refl _) (fun x _ => rfl) (fun x _ => rfl)
  · exact l4_ (cells := lz_) o3 (by omega) (fun x _ => rfl) (fun x _ => rfl)
  · exact thrV_of o4 (by omega) t4
  · exact l4_ (cells := fc_) hown5 (by omega) (fun x _ => rfl) (fun x _ => rfl)
 have zb : Z.heap[w5.heap.size]? = some (.cells #[.slice p1 n1 c1, .slice p2 n2 c2, .slice p3 n3 c3, .slice p4 n4 c4] 27 (0, 0)) := by rw [← hZ]; exact heap_alloc_new _ _
 have zd := hd5.below zB1
 have zk : Z.heap[w.heap.size]? = some (.cells #[.slice none 0 0, .slice none 0 0, .slice none 0 0, .slice none 0 0] 27 (0, 0)) := (zB1.block _ (by have := lt_of_block xk; omega)).trans (zo.kept xk nk)
 have zq : Only (fun b => w.heap.size ≤ b) w Z := ((Only.of_below_le xB (fun _ _ h => h)).then zo (fun b hb h => by rcases h with h | h <;> omega)).then (Only.of_below zB1 : Only (fun _ => False) w5 Z) (fun _ _ h => h.elim)
 have lk := lt_of_block zk
 have y0 := zd.c0
 have y1 := zd.c1
 have HZ := h5_ zD zq zd zk zb
 clear xB xd xk ho2 hd2 hown2 ho3 hd3 hown3 ho4 hd4 hown4 hthr4 ho5 hd5 hown5 hx2 l23 l34 l45 l56 nk zB1 o2 o3 o4 t4 zo zD zb zd zq zk hZ hqq HX H2 H3 H4 H5
 obtain ⟨bd, hbd⟩ : ∃ x, s4.db = x := ⟨_, rfl⟩
 rw [hbd] at y1
 have HB := h1_ hbd
 clear hbd
 cases bd
 · obtain ⟨dn, hdn⟩ : ∃ x, (!s4.wb && s4.rest.isEmpty) = x := ⟨_, rfl⟩
   have hcall := rdone q s4.rest s4.wb Z HZ.out.2.2.1.read
   rw [hdn] at hcall
   have HD := h1_ hdn
   have HC := h1_ hcall
   clear hdn hcall
   cases dn
   · skip
     have yk := HZ.out.2.2.2.1
     go_wp2_with (first
      | (go_at_call 29; refine HC.out.mono ?_; rintro e w6 ⟨rfl, rfl⟩)
      | ((with_reducible refine ad_ ?_); refine sr_ rfl rfl (h := ?_); (try simp only [World.setRow_alloc_new])))
     refine bodyPost_ret (a3_ (t2 := 3) rfl _ _ w.heap.size _ _ _ _ rfl (setRow_heap _ _ _ _ _ _ yk) Tryz.underlying27 rfl (by kernel_rfl)) rfl ?_
     have hok : fn_ l = false := by unfold fn_; rw [HF.out]; show (!s4.db && (!s4.wb && s4.rest.isEmpty)) = false; rw [HD.out, Bool.and_false]
     have oS := (Only.refl (· = w.heap.size) Z).setRow w.heap.size #[.slice none 0 0, .slice none 0 0, .slice none 0 0, .slice none 0 0] (.inl rfl)
     unfold i1_
     rw [hok]
     exact ⟨(HZ.out.2.1.then oS (fun b hb h => by omega)).below (Nat.le_refl _) (fun b h => h), _, rfl, by rw [if_neg (by decide)]⟩
   · have yk := HZ.out.2.2.2.1
     have yb := HZ.out.2.2.2.2
     go_wp2_with (first
      | (go_at_call 29; refine HC.out.mono ?_; rintro e w6 ⟨rfl, rfl⟩)
      | (refine wpList_load_row rfl 27 (.tmp 5) rfl w5.heap.size rfl 27 #[.slice p1 n1 c1, .slice p2 n2 c2, .slice p3 n3 c3, .slice p4 n4 c4] (0, 0) _ yb Tryz.underlying27 rfl (by kernel_rfl) ?_)
      | ((with_reducible refine ad_ ?_); refine sr_ rfl rfl (h := ?_); (try simp only [World.setRow_alloc_new])))
     refine bodyPost_ret (a3_ (t2 := 3) rfl _ _ w.heap.size _ _ _ _ rfl (setRow_heap _ _ _ _ _ _ yk) Tryz.underlying27 rfl (by kernel_rfl)) rfl ?_
     have hok : fn_ l = true := by unfold fn_; rw [HF.out]; show (!s4.db && (!s4.wb && s4.rest.isEmpty)) = true; rw [HB.out, HD.out]; rfl
     have oS := (Only.refl (· = w.heap.size) Z).setRow w.heap.size #[.slice p1 n1 c1, .slice p2 n2 c2, .slice p3 n3 c3, .slice p4 n4 c4] (.inl rfl)
     unfold i1_
     rw [hok]
     refine ⟨(HZ.out.2.1.then oS (fun b hb h => by omega)).below (Nat.le_refl _) (fun b h => h), _, rfl, ?_⟩
     rw [if_pos rfl, HF.out]
     have hqq := HQ.out
     exact (HZ.out.1.kept (ch_.only oS (fun g hg => by omega))).lower (by omega)
 · skip
   have yk := HZ.out.2.2.2.1
   go_wp2_with (first
    | ((with_reducible refine ad_ ?_); refine sr_ rfl rfl (h := ?_); (try simp only [World.setRow_alloc_new])))
   refine bodyPost_ret (a3_ (t2 := 3) rfl _ _ w.heap.size _ _ _ _ rfl (setRow_heap _ _ _ _ _ _ yk) Tryz.underlying27 rfl (by kernel_rfl)) rfl ?_
   have hok : fn_ l = false := by unfold fn_; rw [HF.out]; show (!s4.db && (!s4.wb && s4.rest.isEmpty)) = false; rw [HB.out]; rfl
   have oS := (Only.refl (· = w.heap.size) Z).setRow w.heap.size #[.slice none 0 0, .slice none 0 0, .slice none 0 0, .slice none 0 0] (.inl rfl)
   unfold i1_
   rw [hok]
   exact ⟨(HZ.out.2.1.then oS (fun b hb h => by omega)).below (Nat.le_refl _) (fun b h => h), _, rfl, by rw [if_neg (by decide)]⟩
end
end Go.Proofs.YtacaejpamidkcaaGreatDoor
