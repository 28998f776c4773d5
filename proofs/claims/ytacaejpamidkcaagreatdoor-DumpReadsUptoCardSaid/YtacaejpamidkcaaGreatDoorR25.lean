/- proc: Threads, Mods, Space, Strata of the example's process. The dump's bytes: what is written, and what is read back. A dump in memory: its rows. No function in sight. strings.Builder, alone or at the head of a struct. The dump's numbers, as the machine's operations compute them. No program in sight. -/
import Derived.StillTailTactics
import Derived.Test.YtacaejpamidkcaaGreatDoorR24
set_option linter.unusedVariables false
set_option linter.unusedSimpArgs false
set_option maxRecDepth 100000
set_option maxHeartbeats 1000000
namespace Go.Proofs.YtacaejpamidkcaaGreatDoor
namespace Two
open Go.RowKit Go.ChangeMaps
attribute [local go_sem] ak_ af_ aq_ be_ bf_ bg_ a6_ a7_ a8_ cb_ run_makeMap
attribute [local irreducible] aa_ modC
theorem o0_ {w : World} {base : Nat} {e : TypeId} {size g cap n : Nat} {xs vs : List Value} (h : w.ownsRow base e size (.slice (some ⟨g, 0, none⟩) n cap) n xs) (hv : vs.length = n * size) : (w.setCells g 0 vs).ownsRow base e size (.slice (some ⟨g, 0, none⟩) n cap) n vs := by
 refine ⟨hv, ?_⟩
 rcases h.2 with ⟨h0, _⟩ | ⟨g', cap', cur, h1, h2, h3, h4, h5, h6, h7⟩
 · cases h0
 · simp only [Value.slice.injEq, Option.some.injEq, Addr.mk.injEq, and_true, true_and] at h1
   obtain ⟨rfl, rfl⟩ := h1
   have hle : vs.length ≤ cur.toList.length := by rw [hv, Array.length_toList, h6]; exact Nat.mul_le_mul_right _ h4
   have hb := cw_ g e (0, 0) vs cur.toList 0 w (by omega) (by simpa using h3)
   refine .inr ⟨g, cap, _, rfl, h2, hb, h4, h5, ?_, ?_⟩
   · have h8 : cur.toList.length = cap * size := by rw [Array.length_toList]; exact h6
     rw [List.size_toArray, List.length_append, List.length_append, List.length_take, List.length_drop, Nat.zero_min]
     omega
   · simp only [List.take_zero, List.nil_append]
     rw [← hv, List.take_left']
     rfl
theorem jn_ {P : Program} (w : World) (t ty e : TypeId) (i : TypeInfo) (g : Nat) (A : Option Addr) (c : Nat) (ht : P.underlying t = some (.slice e)) (hi : P.info? e = some i) (hb : w.heap[g]? = some (.cells #[] e (0, 0))) :
 (Builtin.append_ #[t, t] ty #[.slice (some ⟨g, 0, none⟩) 0 0, .slice A 0 c]).run P w = .ok (.slice (some ⟨g, 0, none⟩) 0 0) w := by
 cases A <;> simp [Builtin.append_, run_underlying ht, sizeOf, typeInfo, hi, Builtin.lenOf, Builtin.firstCells, storeCells, go_sem]
theorem hj_ {P : Program} {w : World} {ops : Array Oper} {rest : List Oper} {o : Oper} {a : Act} {Q : Exit → Act → World → Prop} (hgd : o.guard = none) (s x : Operand) (t : TypeId)
 (ho : o.op = .call { callee := .builtin .append, args := #[s, x], argTypes := #[t, t] }) (e : TypeId) (i : TypeInfo) (ht : P.underlying t = some (.slice e)) (hi : P.info? e = some i) (g : Nat) (A : Option Addr) (c : Nat)
 (hs : a.eval s = .slice (some ⟨g, 0, none⟩) 0 0) (hb : w.heap[g]? = some (.cells #[] e (0, 0))) (hx : a.eval x = .slice A 0 c)
 (h : wpList P ops Q rest (a.put o.dst (.slice (some ⟨g, 0, none⟩) 0 0)) w) : wpList P ops Q (o :: rest) a w := by
 refine wpList_plain hgd fun K hK => ?_
 have hrun := jn_ (P := P) w t o.type e i g A c ht hi hb
 unfold Oper.wp
 simp [execOp, ho, resolve, invoke, builtin, hs, hx, hrun, Result.andThen]
 exact hK _ _ h
theorem jo_ (A : Option Addr) (c : Nat) (w : World) : Calls Tryz.prog 179 #[.slice A 0 c] w fun e w' => (∃ A' c', e = .returned (.slice A' 0 c')) ∧ Below w.heap.size w w' := by
 obtain ⟨i0, hi, hz0, hz1, hz2⟩ := info_parts f2_
 have hen := fun (w : World) (a : Option Addr) (l c : Nat) => _root_.Go.run_eql_slice_nil (P := Tryz.prog) w 38 3 a l c Tryz.underlying38
 cases A with
 | none =>
  go_enter Tryz.func179, Tryz.ntmps179
  go_wp2
  go_ret
  exact ⟨⟨_, _, rfl⟩, Below.refl _ _⟩
 | some a =>
  go_enter Tryz.func179, Tryz.ntmps179
  go_wp2_with (at_builtin; refine hj_ rfl _ _ _ rfl 3 i0 Tryz.underlying38 hi w.heap.size (some a) c rfl (heap_alloc_new _ _) rfl ?_)
  go_ret
  exact ⟨⟨_, _, rfl⟩, (Below.refl _ _).alloc (Nat.le_refl _) _⟩
theorem k0_ (T : List Value) (h : T.length = 23) : (Tryz.prog.info? 133).map (·.size) = some T.length := by rw [h]; kernel_rfl
theorem eg_ (T : List Value) (h : T.length = 23) : (Tryz.prog.info? 133).map (·.size) = some T.toArray.size := by rw [List.size_toArray, h]; kernel_rfl
theorem qe_ (T : List Value) (h : T.length = 23) : T.toArray.size = 23 := by rw [List.size_toArray, h]
theorem g0_ (T : List Value) (h : ∀ u ∈ T, u.oneCell' = true) : T.toArray.all (·.oneCell') = true := by simpa using h
theorem pcopied (T : List Value) (hl : T.length = 23) (h1 : ∀ u ∈ T, u.oneCell' = true) (A : Option Addr) (c : Nat) (hc : T[(21 : Nat)]? = some (.slice A 0 c)) (hs : T[(22 : Nat)]? = some (.slice none 0 0)) (w : World) :
 Calls Tryz.prog 85 #[.agg T.toArray] w fun e w' => (∃ A' c', e = .returned (.agg (T.set 21 (.slice A' 0 c')).toArray)) ∧ Below w.heap.size w w' := by
 have HC := h4_ hl h1 hc hs
 clear hl h1 hc hs
 go_enter Tryz.func85, Tryz.ntmps85
 go_upto_region 1 with fail
 refine ac_ fun V hV => ?_
 have vB : Below w.heap.size w V := by rw [← hV]; go_grown
 have vx : V.heap[w.heap.size]? = some (.cells T.toArray 133 (0, 0)) := by rw [← hV]; (repeat (first | exact block_at (by first | rfl | (simp; done) | (simp; omega)) | refine ae_ ?_))
 have vz : ∃ z : Array Value, z.size = 23 ∧ V.heap[w.heap.size + 1]? = some (.cells z 133 (0, 0)) := by rw [← hV]; exact ⟨_, rfl, heap_alloc2_new _ _ _⟩
 obtain ⟨z, hz, vz⟩ := vz
 clear hV
 have lz : w.heap.size + 2 ≤ V.heap.size := by have := lt_of_block vz; omega
 have HV := h2_ vB vz
 clear vB vz
 obtain ⟨hl, h1, hc, hs⟩ := HC.out
 have vx' := vx
 refine wr_ [.pt w.heap.size 21, .val (.slice A 0 c), .more (fun v w' => ∃ A' c', v = .slice A' 0 c') (fun v w' w'' hb h => h), .pt w.heap.size 22, .val (.slice none 0 0), .val (.slice none 0 0), .pt w.heap.size 21] (by kernel_rfl) (by kernel_rfl) ?_ ?_
 · simp only [ck_, List.take, List.length]
   refine ⟨?_, ?_, ?_, ?_, ?_, ?_, ?_, ?_⟩
   all_goals first | trivial | (intro a wr hb hf hd)
   all_goals have hf1 : zp_ a 1 w.heap.size 0 := (hf 1).trans rfl
   · exact gp_ (by simp [execOp, hf1, go_sem])
   · have h3 : z_ a 3 _ := hd 0
     have hc := ab_ (at_b hb vx') 21 hc
     exact gp_ (by simp [execOp, h3, hc, go_sem])
   · have h4 : z_ a 4 _ := hd 1
     refine cu_ (f := 179) (args := #[.slice A 0 c]) (by simp [execOp, h4, go_sem]) ?_
     refine (jo_ A c _).mono ?_
     rintro e w3 ⟨⟨A', c', rfl⟩, hb3⟩
     exact ⟨_, rfl, hb3, ⟨A', c', rfl⟩, fun h => by cases h⟩
   · exact gp_ (by simp [execOp, hf1, go_sem])
   · have h6 : z_ a 6 _ := hd 3
     have hc := ab_ (at_b hb vx') 22 hs
     exact gp_ (by simp [execOp, h6, hc, go_sem])
   · have h7 : z_ a 7 _ := hd 4
     refine cu_ (f := 180) (args := #[.slice none 0 0]) (by simp [execOp, h7, go_sem]) ?_
     refine (jk_ _).mono ?_
     rintro e w3 ⟨rfl, rfl⟩
     exact ⟨_, rfl, Below.refl _ _, rfl, fun h => by cases h⟩
   · exact gp_ (by simp [execOp, hf1, go_sem])
 · intro fv w2 hb2 hs2 hn hne
   have g3 : fv 3 = .pointer (some ⟨w.heap.size, 21, none⟩) := hs2 0 (by simp)
   have g4 : fv 4 = .slice A 0 c := hs2 1 (by simp)
   have g6 : fv 6 = .pointer (some ⟨w.heap.size, 22, none⟩) := hs2 3 (by simp)
   have g7 : fv 7 = .slice none 0 0 := hs2 4 (by simp)
   have g8 : fv 8 = .slice none 0 0 := hs2 5 (by simp)
   have g9 : fv 9 = .pointer (some ⟨w.heap.size, 21, none⟩) := hs2 6 (by simp)
   obtain ⟨A', c', g5⟩ : ∃ A' c', fv 5 = .slice A' 0 c' := hs2 2 (by simp)
   rw [show (List.range (List.length _)).map (a1_ _) = [3, 4, 5, 6, 7, 8, 9] from by kernel_rfl]
   simp only [dw_, List.foldl, Act.put, List.drop, List.length, g3, g4, g6, g7, g8, g9, g5, List.setIfInBounds_toArray, List.set_cons_zero, List.set_cons_succ]
   clear hs2 hn hne g3 g4 g6 g7 g8 g9 g5
   have xx := at_b hb2 vx
   have xz := at_b hb2 HV.out.2
   have c21 := ab_ xx 21 hc; have f21 := ag_ xx 21; have c22 := ab_ xx 22 hs; have f22 := ag_ xx 22
   have HX := h3_ hb2 xx xz
   have lx := lt_of_block xx
   clear hb2 xx xz vx vx' hl h1 hc hs
   go_upto_region 2 with fail
   refine ac_ fun X hX => ?_
   have xo : Only (· = w.heap.size) w2 X := by rw [← hX]; exact ((Only.refl (· = w.heap.size) w2).setCell ⟨w.heap.size, 21, none⟩ _ (.inl rfl)).setCell ⟨w.heap.size, 22, none⟩ _ (.inl rfl)
   have yx : X.heap[w.heap.size]? = some (.cells (T.set 21 (.slice A' 0 c')).toArray 133 (0, 0)) := by
    rw [← hX]
    have := aj_ (aj_ HX.out.2.1 21 (.slice A' 0 c')) 22 (.slice none 0 0)
    have e : (T.set 21 (.slice A' 0 c')).set 22 (.slice none 0 0) = T.set 21 (.slice A' 0 c') := by
     apply List.ext_getElem?
     intro j
     by_cases hj : j = 22
     · subst hj
       rw [List.getElem?_set_self (by rw [List.length_set, HC.out.1]; omega), List.getElem?_set_ne (by omega)]
       exact HC.out.2.2.2.symm
     · rw [List.getElem?_set_ne (by omega)]
    rw [e] at this
    exact this
   have yz := xo.kept HX.out.2.2 (by omega)
   have HY := h3_ xo yx yz
   clear hX xo yx yz c21 f21 c22 f22
   have hl' : (T.set 21 (.slice A' 0 c')).length = 23 := by rw [List.length_set]; exact HC.out.1
   have h1' : ∀ u ∈ T.set 21 (.slice A' 0 c'), u.oneCell' = true := by
    intro u hu
    rcases List.mem_or_eq_of_mem_set hu with h | rfl
    · exact HC.out.2.1 u h
    · rfl
   have HL := h2_ hl' h1'
   clear hl' h1'
   obtain ⟨U, hU⟩ : ∃ U, U = T.set 21 (.slice A' 0 c') := ⟨_, rfl⟩
   rw [← hU] at HL HY
   have HU := h1_ hU
   clear hU
   go_wp2_with (first
    | (refine wpList_load_row rfl 133 (.tmp 1) rfl w.heap.size rfl 133 U.toArray (0, 0) _ HY.out.2.1 Tryz.underlying133 rfl (eg_ U HL.out.1) ?_)
    | ((with_reducible refine ad_ ?_); refine wpList_store_row rfl 133 _ _ rfl _ _ rfl rfl _ _ HY.out.2.2 (eg_ U HL.out.1) (by rw [hz, List.size_toArray, HL.out.1]) (g0_ U HL.out.2) ?_))
   refine bodyPost_ret (da_ rfl _ _ (w.heap.size + 1) 133 U.toArray (0, 0) _ rfl (setRow_heap X (w.heap.size + 1) z _ _ _ HY.out.2.2) Tryz.underlying133 rfl (eg_ U HL.out.1)) rfl ⟨⟨A', c', by rw [HU.out]⟩, ?_⟩
   have hB := HV.out.1.trans (HX.out.1.mono HV.out.1.size)
   exact (((Only.of_below_le hB (fun k _ h => h) : Only (fun b => w.heap.size ≤ b) w w2).then HY.out.1 (by intro k _ h; omega)).setRow (w.heap.size + 1) _ (.inl (by show w.heap.size ≤ w.heap.size + 1; omega))).below (Nat.le_refl _) (fun k h => h)
theorem wx_ (p s b l gt ct : Nat) (T : List Value) (hl : T.length = 23) (h1 : ∀ u ∈ T, u.oneCell' = true) (A : Option Addr) (cA : Nat) (hc : T[(21 : Nat)]? = some (.slice A 0 cA)) (hs : T[(22 : Nat)]? = some (.slice none 0 0)) (w : World) (hp : w.heap[p]? = some (.cells (es_ s b l (.slice (some ⟨gt, 0, none⟩) 1 ct)).toArray 117 (0, 0)))
 (ht : w.ownsRow 0 133 23 (.slice (some ⟨gt, 0, none⟩) 1 ct) 1 T) :
 Calls Tryz.prog 41 #[.pointer (some ⟨p, 0, none⟩)] w fun e w' => (∃ g c A' c', e = .returned (.slice (some ⟨g, 0, none⟩) 1 c) ∧ w'.ownsRow w.heap.size 133 23 (.slice (some ⟨g, 0, none⟩) 1 c) 1 (T.set 21 (.slice A' 0 c'))) ∧ Below w.heap.size w w' := by
 have lp := lt_of_block hp
 unfold es_ at hp
 have c3 := ab_ hp 3 rfl
 have HH := h3_ ht hl h1
 have HC := h2_ hc hs
 clear hp ht hl h1 hc hs
 go_enter Tryz.func41, Tryz.ntmps41
 go_wp2_with (first
  | (go_at_call 84; refine (ln_ gt 1 ct T _ (fun j u hj => (row_cell HH.out.1 j hj).1) HH.out.2.1 HH.out.2.2 (by omega) (by omega) (ah_ HH.out.1).2.1).mono ?_
     rintro e w1 ⟨hb1, g, c, rfl, hown1⟩
     have lg1 := (ah_ hown1).2.1
     have H1 := h2_ hb1 hown1; clear hb1 hown1))
 refine wp_loop_rounds 2 ?_
 rw [rounds_succ]
 go_upto_region 5 with (first
  | (refine wpList_load_mid rfl 133 (.tmp 16) rfl g 0 rfl T _ (row_range H1.out.2) Tryz.underlying133 rfl (k0_ T HH.out.2.1) ?_)
  | ((with_reducible refine ad_ ?_); refine wpList_store_row rfl 133 _ _ rfl _ _ rfl rfl _ _ (by (repeat (first | assumption | exact heap_alloc_new _ _ | refine ae_ ?_ | refine az_ ?_ | apply setRow_heap | (refine (setRow_other _ _ _ _ ?_).trans ?_; omega)))) (eg_ T HH.out.2.1) (by rw [qe_ T HH.out.2.1]; rfl) (g0_ T HH.out.2.2) ?_; (try simp only [World.setRow_alloc_new])))
 have ks := H1.out.1.size
 go_wp2_with (refine wpList_load_row rfl 133 (.tmp 5) rfl w1.heap.size rfl 133 T.toArray (0, 0) _ (heap_alloc_new _ _) Tryz.underlying133 rfl (eg_ T HH.out.2.1) ?_)
 refine (pcopied T HH.out.2.1 HH.out.2.2 A cA HC.out.1 HC.out.2 _).mono ?_
 rintro e w2 ⟨⟨A', c', rfl⟩, hb2⟩
 have kown := ai_ (ai_ H1.out.2 ((Below.refl w1.heap.size w1).alloc (Nat.le_refl _) (.cells T.toArray 133))) hb2
 have H2 := h2_ hb2 kown
 clear hb2 kown
 have hl' : (T.set 21 (.slice A' 0 c')).length = 23 := by rw [List.length_set]; exact HH.out.2.1
 have h1' : ∀ u ∈ T.set 21 (.slice A' 0 c'), u.oneCell' = true := by
  intro u hu
  rcases List.mem_or_eq_of_mem_set hu with h | rfl
  · exact HH.out.2.2 u h
  · rfl
 obtain ⟨U, hU⟩ : ∃ U, U = T.set 21 (.slice A' 0 c') := ⟨_, rfl⟩
 rw [← hU] at hl' h1' ⊢
 have HL := h3_ hl' h1' hU
 clear hl' h1' hU
 go_wp2_with ((with_reducible refine ad_ ?_); refine wpList_store_mid rfl 133 _ _ rfl g 0 U.toArray rfl rfl ?ht (eg_ _ HL.out.1) (g0_ _ HL.out.2.1) ?_)
 case ht =>
  intro j hj
  have hj' : j < T.length := by rw [HH.out.2.1]; rw [List.size_toArray, HL.out.1] at hj; exact hj
  obtain ⟨h1, h2⟩ := row_cell H2.out.2 j (List.getElem?_eq_getElem hj')
  rw [Nat.zero_add, h1]
  exact ⟨rfl, h2⟩
 rw [rounds_succ]
 go_wp2
 go_ret
 have hB := aw_ (H1.out.1.alloc H1.out.1.size (.cells T.toArray 133)) H2.out.1
 have hg1 := ah_ H1.out.2
 refine ⟨⟨g, c, A', c', rfl, by rw [← HL.out.2.2]; exact o0_ H2.out.2 HL.out.1⟩, ?_⟩
 exact (Only.setCells g (.inr hg1.1) _ 0 _ (Only.of_below_le hB (fun k _ h => h) : Only (fun b => w.heap.size ≤ b) w w2)).below (Nat.le_refl _) (fun k h => h)
theorem ty_ (p s b l : Nat) (th : Value) (w : World) (hp : w.heap[p]? = some (.cells (es_ s b l th).toArray 117 (0, 0))) :
 Calls Tryz.prog 81 #[.pointer (some ⟨p, 0, none⟩)] w fun e w' => e = .returned (.pointer (some ⟨s, 0, none⟩)) ∧ w' = w := by
 have lp := lt_of_block hp
 unfold es_ at hp
 have c0 := ab_ hp 0 rfl
 clear hp
 go_enter Tryz.func81, Tryz.ntmps81
 go_wp2
 go_ret
 exact ⟨rfl, rfl⟩
theorem hstrata (p s b l : Nat) (th : Value) (w : World) (hp : w.heap[p]? = some (.cells (es_ s b l th).toArray 117 (0, 0))) :
 Calls Tryz.prog 79 #[.pointer (some ⟨p, 0, none⟩)] w fun e w' => e = .returned (.slice none 0 0) ∧ w' = w := by
 have lp := lt_of_block hp
 unfold es_ at hp
 have c5 := ab_ hp 5 rfl
 clear hp
 go_enter Tryz.func79, Tryz.ntmps79
 go_wp2_with (go_at_call 177; refine (ip_ _).mono ?_; rintro e w1 ⟨rfl, rfl⟩)
 go_ret
 exact ⟨rfl, rfl⟩
theorem hmods (B : IB) (p s b l st gm cm s' b' : Nat) (th ord : Value) (w : World) (hp : w.heap[p]? = some (.cells (es_ s b l th).toArray 117 (0, 0))) (hl : w.heap[l]? = some (.cells (bj_ s' b' st (.slice (some ⟨gm, 0, none⟩) 1 cm) ord).toArray 167 (0, 0)))
 (hm : w.ownsRow 0 127 32 (.slice (some ⟨gm, 0, none⟩) 1 cm) 1 (modC B 512 1)) :
 Calls Tryz.prog 80 #[.pointer (some ⟨p, 0, none⟩)] w fun e w' => Below w.heap.size w w' ∧ ∃ g c, e = .returned (.slice (some ⟨g, 0, none⟩) 1 c) ∧ w'.ownsRow w.heap.size 127 32 (.slice (some ⟨g, 0, none⟩) 1 c) 1 (modC B 512 1) := by
 have lp := lt_of_block hp
 unfold es_ at hp
 have c2 := ab_ hp 2 rfl
 have HH := h2_ hl hm
 clear hp hl hm
 go_enter Tryz.func80, Tryz.ntmps80
 go_wp2_with (go_at_call 37; refine (lmods l s' b' st gm cm ord B _ HH.out.1 HH.out.2).mono ?_; rintro e w1 ⟨hb1, g, c, rfl, hown⟩; have H1 := h2_ hb1 hown; clear hb1 hown)
 go_ret
 exact ⟨H1.out.1, g, c, rfl, H1.out.2⟩
end Two
namespace Wire
def numL (m : Nat) : List UInt8 := if m < 128 then [UInt8.ofNat m] else UInt8.ofNat (m % 128 + 128) :: numL (m / 128)
 termination_by m
 decreasing_by omega
def numP : Nat → Nat → List UInt8 → Option (Nat × List UInt8)
 | _, _, [] => none
 | i, acc, c :: r =>
  if 10 ≤ i ∨ i = 9 ∧ 1 < c.toNat then none
  else if c.toNat < 128 then (if c.toNat = 0 ∧ 0 < i then none else some (acc + c.toNat % 128 * 2 ^ (7 * i), r))
  else numP (i + 1) (acc + c.toNat % 128 * 2 ^ (7 * i)) r
theorem cj_ {m : Nat} (h : m < 128) : numL m = [UInt8.ofNat m] := by unfold numL; rw [if_pos h]
theorem g1_ {m : Nat} (h : ¬ m < 128) : numL m = UInt8.ofNat (m % 128 + 128) :: numL (m / 128) := by rw [numL, if_neg h]
theorem jp_ (m : Nat) : numL m ≠ [] := by
 by_cases h : m < 128
 · rw [cj_ h]; simp
 · rw [g1_ h]; simp
theorem tz_ : ∀ (m i acc : Nat) (r : List UInt8), i < 10 → (0 < i → 0 < m) → m < 2 ^ (64 - 7 * i) → numP i acc (numL m ++ r) = some (acc + m * 2 ^ (7 * i), r) := by
 intro m
 induction m using Nat.strongRecOn with
 | ind m ih =>
  intro i acc r hi h0 hm
  by_cases h : m < 128
  · rw [cj_ h]
    have e : (UInt8.ofNat m).toNat = m := by simp [UInt8.toNat_ofNat']; omega
    show numP i acc (UInt8.ofNat m :: r) = _
    unfold numP
    rw [e]
    have h9 : ¬ (10 ≤ i ∨ i = 9 ∧ 1 < m) := by
     rintro (h | ⟨rfl, h⟩)
     · omega
     · simp at hm; omega
    rw [if_neg h9, if_pos h, if_neg (by omega), Nat.mod_eq_of_lt h]
  · rw [g1_ h]
    have e : (UInt8.ofNat (m % 128 + 128)).toNat = m % 128 + 128 := by simp [UInt8.toNat_ofNat']; omega
    show numP i acc (UInt8.ofNat (m % 128 + 128) :: (numL (m / 128) ++ r)) = _
    unfold numP
    rw [e]
    have hi9 : i < 9 := by
     by_cases h9 : i = 9
     · subst h9; simp at hm; omega
     · omega
    rw [if_neg (by omega), if_neg (by omega), ih (m / 128) (by omega) (i + 1) _ r (by omega) (by omega) ?_]
    · congr 2
      rw [show (m % 128 + 128) % 128 = m % 128 by omega, show 7 * (i + 1) = 7 * i + 7 by omega, Nat.pow_add, Nat.add_assoc]
      congr 1
      rw [show (2 : Nat) ^ 7 = 128 by decide, Nat.mul_comm (2 ^ (7 * i)) 128, ← Nat.mul_assoc, ← Nat.add_mul]
      congr 1
      omega
    · have : 64 - 7 * i = (64 - 7 * (i + 1)) + 7 := by omega
      rw [this, Nat.pow_add] at hm
      exact Nat.div_lt_of_lt_mul (by rw [Nat.mul_comm]; exact hm)
theorem gn_ : ∀ (l : List UInt8) (i acc m : Nat) (r : List UInt8), numP i acc l = some (m, r) → ∃ q, m = acc + q * 2 ^ (7 * i) ∧ l = numL q ++ r ∧ q < 2 ^ (64 - 7 * i) ∧ i < 10 ∧ (0 < i → 0 < q)
 | [], i, acc, m, r, h => by simp [numP] at h
 | c :: l, i, acc, m, r, h => by
  have hc : c.toNat < 256 := c.toNat_lt
  unfold numP at h
  by_cases h9 : 10 ≤ i ∨ i = 9 ∧ 1 < c.toNat
  · rw [if_pos h9] at h; cases h
  · rw [if_neg h9] at h
    by_cases hs : c.toNat < 128
    · rw [if_pos hs] at h
      by_cases hz : c.toNat = 0 ∧ 0 < i
      · rw [if_pos hz] at h; cases h
      · rw [if_neg hz] at h
        injection h with h
        injection h with h1 h2
        refine ⟨c.toNat, ?_, ?_, ?_, by omega, by omega⟩
        · rw [← h1, Nat.mod_eq_of_lt hs]
        · rw [cj_ hs, h2, UInt8.ofNat_toNat]; rfl
        · by_cases hi : i = 9
          · subst hi
            show c.toNat < 2 ^ 1
            omega
          · have : 2 ^ 8 ≤ 2 ^ (64 - 7 * i) := Nat.pow_le_pow_right (by decide) (by omega)
            omega
    · rw [if_neg hs] at h
      obtain ⟨q, e1, e2, e3, e4, e5⟩ := gn_ l (i + 1) _ m r h
      have hq := e5 (by omega)
      refine ⟨c.toNat % 128 + 128 * q, ?_, ?_, ?_, by omega, by omega⟩
      · rw [e1, show 7 * (i + 1) = 7 * i + 7 by omega, Nat.pow_add, Nat.add_assoc, Nat.add_mul]
        congr 1
        rw [show (2 : Nat) ^ 7 = 128 by decide, Nat.mul_comm (2 ^ (7 * i)) 128, ← Nat.mul_assoc, Nat.mul_comm q 128]
      · rw [g1_ (by omega), show (c.toNat % 128 + 128 * q) % 128 + 128 = c.toNat by omega, show (c.toNat % 128 + 128 * q) / 128 = q by omega, UInt8.ofNat_toNat, e2]
        rfl
      · have : 64 - 7 * i = (64 - 7 * (i + 1)) + 7 := by omega
        rw [this, Nat.pow_add, show (2 : Nat) ^ 7 = 128 by decide]
        omega
def zig (n : Int) : Nat := if 0 ≤ n then (2 * n).toNat else (-2 * n - 1).toNat
def kj_ (m : Nat) : Int := if m % 2 = 0 then (m / 2 : Nat) else -((m / 2 : Nat) : Int) - 1
def I64 (n : Int) : Prop := -9223372036854775808 ≤ n ∧ n ≤ 9223372036854775807
theorem qf_ {n : Int} (h : I64 n) : zig n < 2 ^ 64 := by unfold zig; unfold I64 at h; split <;> omega
theorem t0_ (n : Int) : kj_ (zig n) = n := by
 unfold zig kj_
 split
 · rw [if_pos (by omega)]; omega
 · rw [if_neg (by omega)]; omega
theorem t1_ (m : Nat) : zig (kj_ m) = m := by
 unfold kj_ zig
 by_cases h : m % 2 = 0
 · rw [if_pos h, if_pos (by omega)]; omega
 · rw [if_neg h, if_neg (by omega)]; omega
theorem t2_ {m : Nat} (h : m < 2 ^ 64) : I64 (kj_ m) := by
 unfold kj_ I64
 split <;> omega
structure RS where
 rest : List UInt8
 wb : Bool
 db : Bool
def RS.fail (s : RS) : RS := ⟨[], true, s.db⟩
def br_ (s : RS) : Nat × RS := match numP 0 0 s.rest with
 | some (m, r) => (m, ⟨r, s.wb, s.db⟩)
 | none => (0, s.fail)
def numS (s : RS) : Nat × RS := if 9223372036854775807 < (br_ s).1 then (0, (br_ s).2.fail) else br_ s
def intS (s : RS) : Int × RS := (kj_ (br_ s).1, (br_ s).2)
def d8_ (s : RS) : List UInt8 × RS := if (numS s).2.rest.length < (numS s).1 then ([], (numS s).2.fail) else ((numS s).2.rest.take (numS s).1, ⟨(numS s).2.rest.drop (numS s).1, (numS s).2.wb, (numS s).2.db⟩)
def intL (n : Int) : List UInt8 := numL (zig n)
def bm_ (l : List UInt8) : List UInt8 := numL l.length ++ l
structure Codec (α : Type) (ok : α → Prop) (enc : α → List UInt8) (one : RS → α × RS) : Prop where
 ne : ∀ x, ok x → enc x ≠ []
 there : ∀ x r wb, ok x → one ⟨enc x ++ r, wb, false⟩ = (x, ⟨r, wb, false⟩)
 back : ∀ s, (one s).2.wb = false → (one s).2.db = false → s.wb = false ∧ s.db = false ∧ ok (one s).1 ∧ s.rest = enc (one s).1 ++ (one s).2.rest
 bad : ∀ s, (s.wb = true → (one s).2.wb = true) ∧ (s.db = true → (one s).2.db = true)
theorem ik_ (m : Nat) (hm : m < 2 ^ 64) (r : List UInt8) (wb db : Bool) : br_ ⟨numL m ++ r, wb, db⟩ = (m, ⟨r, wb, db⟩) := by
 unfold br_
 dsimp only
 rw [tz_ m 0 0 r (by decide) (fun h => absurd h (by decide)) (by simpa using hm)]
 simp
theorem jq_ (s : RS) (h : (br_ s).2.wb = false) : s.wb = false ∧ (br_ s).1 < 2 ^ 64 ∧ s.rest = numL (br_ s).1 ++ (br_ s).2.rest ∧ (br_ s).2.db = s.db := by
 unfold br_ at *
 cases hp : numP 0 0 s.rest with
 | none => rw [hp] at h; cases h
 | some x =>
  obtain ⟨m, r⟩ := x
  rw [hp] at h
  obtain ⟨q, e1, e2, e3, _, _⟩ := gn_ s.rest 0 0 m r hp
  have hq : m = q := by simpa using e1
  subst hq
  exact ⟨h, by simpa using e3, e2, rfl⟩
theorem f4_ (s : RS) : (s.wb = true → (br_ s).2.wb = true) ∧ (br_ s).2.db = s.db := by
 unfold br_
 split
 · exact ⟨id, rfl⟩
 · exact ⟨fun _ => rfl, rfl⟩
theorem mn_ (m : Nat) (hm : m ≤ 9223372036854775807) (r : List UInt8) (wb db : Bool) : numS ⟨numL m ++ r, wb, db⟩ = (m, ⟨r, wb, db⟩) := by
 unfold numS
 rw [ik_ m (by omega), if_neg (by show ¬ 9223372036854775807 < m; omega)]
theorem qg_ (s : RS) (h : (numS s).2.wb = false) : s.wb = false ∧ (numS s).1 ≤ 9223372036854775807 ∧ s.rest = numL (numS s).1 ++ (numS s).2.rest ∧ (numS s).2.db = s.db := by
 unfold numS at *
 split at h
 · cases h
 · rename_i hn
   rw [if_neg hn]
   obtain ⟨a, _, c, d⟩ := jq_ s h
   exact ⟨a, by omega, c, d⟩
theorem go_ (s : RS) : (s.wb = true → (numS s).2.wb = true) ∧ (numS s).2.db = s.db := by
 unfold numS
 split
 · exact ⟨fun _ => rfl, (f4_ s).2⟩
 · exact f4_ s
theorem cc_ : Codec Int I64 intL intS where
 ne := fun x _ => jp_ _
 there := fun x r wb h => by
  unfold intS intL
  rw [ik_ (zig x) (qf_ h), t0_]
 back := fun s h1 h2 => by
  obtain ⟨a, b, c, d⟩ := jq_ s h1
  refine ⟨a, ?_, t2_ b, ?_⟩
  · rw [← d]; exact h2
  · unfold intS intL
    rw [t1_]
    exact c
 bad := fun s => ⟨(f4_ s).1, fun h => (f4_ s).2.trans h⟩
def g3_ (l : List UInt8) : Prop := l.length ≤ 9223372036854775807
theorem fe_ : Codec (List UInt8) g3_ bm_ d8_ where
 ne := fun x _ h => jp_ x.length (List.append_eq_nil_iff.1 h).1
 there := fun x r wb h => by
  unfold d8_ bm_
  rw [List.append_assoc, mn_ x.length h]
  rw [if_neg (by show ¬ (x ++ r).length < x.length; rw [List.length_append]; omega)]
  simp
 back := fun s h1 h2 => by
  unfold d8_ at *
  split at h1
  · cases h1
  · rename_i hn
    rw [if_neg hn] at h2 ⊢
    obtain ⟨a, b, c, d⟩ := qg_ s h1
    refine ⟨a, d.symm.trans h2, ?_, ?_⟩
    · unfold g3_
      rw [List.length_take]
      omega
    · unfold bm_
      rw [List.length_take, Nat.min_eq_left (by omega), List.append_assoc, List.take_append_drop]
      exact c
 bad := fun s => by
  unfold d8_
  split
  · exact ⟨fun _ => rfl, fun h => (go_ s).2.trans h⟩
  · exact ⟨(go_ s).1, fun h => (go_ s).2.trans h⟩
def dn_ {α β : Type} (a : RS → α × RS) (b : RS → β × RS) (s : RS) : (α × β) × RS := (((a s).1, (b (a s).2).1), (b (a s).2).2)
theorem Codec.pair {α β : Type} {oa : α → Prop} {ob : β → Prop} {ea : α → List UInt8} {eb : β → List UInt8} {a : RS → α × RS} {b : RS → β × RS} (ha : Codec α oa ea a) (hb : Codec β ob eb b) :
 Codec (α × β) (fun x => oa x.1 ∧ ob x.2) (fun x => ea x.1 ++ eb x.2) (dn_ a b) where
 ne := fun x ho h => ha.ne x.1 ho.1 (List.append_eq_nil_iff.1 h).1
 there := fun x r wb h => by
  unfold dn_
  rw [List.append_assoc, ha.there x.1 _ wb h.1]
  dsimp only
  rw [hb.there x.2 r wb h.2]
 back := fun s h1 h2 => by
  obtain ⟨b1, b2, b3, b4⟩ := hb.back (a s).2 h1 h2
  obtain ⟨a1, a2, a3, a4⟩ := ha.back s b1 b2
  refine ⟨a1, a2, ⟨a3, b3⟩, ?_⟩
  show s.rest = _
  rw [a4, b4, List.append_assoc]
  rfl
 bad := fun s => ⟨fun h => (hb.bad _).1 ((ha.bad s).1 h), fun h => (hb.bad _).2 ((ha.bad s).2 h)⟩
theorem Codec.map {α β : Type} {oa : α → Prop} {ea : α → List UInt8} {a : RS → α × RS} (ha : Codec α oa ea a) (f : α → β) (g : β → α) (hfg : ∀ y, f (g y) = y) (hgf : ∀ x, g (f x) = x) :
 Codec β (fun y => oa (g y)) (fun y => ea (g y)) (fun s => (f (a s).1, (a s).2)) where
 ne := fun y h => ha.ne _ h
 there := fun y r wb h => by
  rw [ha.there (g y) r wb h, hfg]
 back := fun s h1 h2 => by
  obtain ⟨a1, a2, a3, a4⟩ := ha.back s h1 h2
  rw [hgf]
  exact ⟨a1, a2, a3, a4⟩
 bad := ha.bad
def b3_ {α : Type} (one : RS → α × RS) : Nat → RS → List α × RS
 | 0, s => ([], s)
 | k + 1, s => if s.rest ≠ [] ∧ s.db = false then ((one s).1 :: (b3_ one k (one s).2).1, (b3_ one k (one s).2).2) else ([], s)
def du_ {α : Type} (one : RS → α × RS) (s : RS) : List α × RS :=
 ((b3_ one (numS s).1 (numS s).2).1, ⟨(b3_ one (numS s).1 (numS s).2).2.rest, (b3_ one (numS s).1 (numS s).2).2.wb, (b3_ one (numS s).1 (numS s).2).2.db || decide ((b3_ one (numS s).1 (numS s).2).1.length ≠ (numS s).1)⟩)
def bz_ {α : Type} (enc : α → List UInt8) (l : List α) : List UInt8 := numL l.length ++ l.flatMap enc
theorem k1_ {α : Type} {ok : α → Prop} {enc : α → List UInt8} {one : RS → α × RS} (h : Codec α ok enc one) : ∀ (l : List α) (r : List UInt8) (wb : Bool), (∀ x ∈ l, ok x) → b3_ one l.length ⟨l.flatMap enc ++ r, wb, false⟩ = (l, ⟨r, wb, false⟩)
 | [], r, wb, _ => rfl
 | x :: l, r, wb, hx => by
  have ho := hx x (by simp)
  rw [List.flatMap_cons, List.append_assoc, List.length_cons]
  show (if enc x ++ (l.flatMap enc ++ r) ≠ [] ∧ false = false then _ else _) = _
  rw [if_pos ⟨fun e => h.ne x ho (List.append_eq_nil_iff.1 e).1, rfl⟩, h.there x _ wb ho]
  dsimp only
  rw [k1_ h l r wb (fun y hy => hx y (List.mem_cons_of_mem _ hy))]
theorem lq_ {α : Type} {ok : α → Prop} {enc : α → List UInt8} {one : RS → α × RS} (h : Codec α ok enc one) : ∀ (k : Nat) (s : RS), (s.wb = true → (b3_ one k s).2.wb = true) ∧ (s.db = true → (b3_ one k s).2.db = true)
 | 0, s => ⟨id, id⟩
 | k + 1, s => by
  unfold b3_
  split
  · have := lq_ h k (one s).2
    exact ⟨fun e => this.1 ((h.bad s).1 e), fun e => this.2 ((h.bad s).2 e)⟩
  · exact ⟨id, id⟩
theorem mo_ {α : Type} {ok : α → Prop} {enc : α → List UInt8} {one : RS → α × RS} (h : Codec α ok enc one) : ∀ (k : Nat) (s : RS), (b3_ one k s).2.wb = false → (b3_ one k s).2.db = false →
 s.wb = false ∧ s.db = false ∧ (∀ x ∈ (b3_ one k s).1, ok x) ∧ s.rest = (b3_ one k s).1.flatMap enc ++ (b3_ one k s).2.rest ∧ (b3_ one k s).1.length ≤ k
 | 0, s, h1, h2 => ⟨h1, h2, fun x hx => by simp [b3_] at hx, rfl, Nat.le_refl _⟩
 | k + 1, s, h1, h2 => by
  unfold b3_ at *
  split at h1
  · rename_i hc
    rw [if_pos hc] at h2 ⊢
    obtain ⟨a1, a2, a3, a4, a5⟩ := mo_ h k (one s).2 h1 h2
    obtain ⟨b1, b2, b3, b4⟩ := h.back s a1 a2
    refine ⟨b1, b2, ?_, ?_, by simp only [List.length_cons]; omega⟩
    · intro x hx
      rcases List.mem_cons.1 hx with rfl | hx
      · exact b3
      · exact a3 x hx
    · rw [List.flatMap_cons, List.append_assoc, ← a4]
      exact b4
  · rename_i hc
    rw [if_neg hc] at h2 ⊢
    exact ⟨h1, h2, fun x hx => by simp at hx, rfl, Nat.zero_le _⟩
theorem f5_ {α : Type} {ok : α → Prop} {enc : α → List UInt8} {one : RS → α × RS} (h : Codec α ok enc one) : Codec (List α) (fun l => (∀ x ∈ l, ok x) ∧ l.length ≤ 9223372036854775807) (bz_ enc) (du_ one) where
 ne := fun l _ e => jp_ _ (List.append_eq_nil_iff.1 e).1
 there := fun l r wb hx => by
  unfold du_ bz_
  rw [List.append_assoc, mn_ l.length hx.2]
  dsimp only
  rw [k1_ h l r wb hx.1]
  simp
 back := fun s h1 h2 => by
  unfold du_ at *
  dsimp only at *
  rw [Bool.or_eq_false_iff, decide_eq_false_iff_not, Decidable.not_not] at h2
  obtain ⟨a1, a2, a3, a4, a5⟩ := mo_ h _ _ h1 h2.1
  obtain ⟨b1, b2, b3, b4⟩ := qg_ s a1
  refine ⟨b1, b4.symm.trans a2, ⟨a3, by omega⟩, ?_⟩
  unfold bz_
  rw [h2.2, List.append_assoc, ← a4]
  exact b3
 bad := fun s => by
  unfold du_
  dsimp only
  refine ⟨fun e => (lq_ h _ _).1 ((go_ s).1 e), fun e => ?_⟩
  rw [(lq_ h _ _).2 ((go_ s).2.trans e)]
  rfl
def repS {α : Type} (one : RS → α × RS) : Nat → RS → List α × RS
 | 0, s => ([], s)
 | k + 1, s => ((one s).1 :: (repS one k (one s).2).1, (repS one k (one s).2).2)
theorem o1_ {α : Type} {ok : α → Prop} {enc : α → List UInt8} {one : RS → α × RS} (h : Codec α ok enc one) : ∀ (k : Nat) (s : RS), (s.wb = true → (repS one k s).2.wb = true) ∧ (s.db = true → (repS one k s).2.db = true)
 | 0, s => ⟨id, id⟩
 | k + 1, s => ⟨fun e => (o1_ h k (one s).2).1 ((h.bad s).1 e), fun e => (o1_ h k (one s).2).2 ((h.bad s).2 e)⟩
theorem mp_ {α : Type} {ok : α → Prop} {enc : α → List UInt8} {one : RS → α × RS} (h : Codec α ok enc one) : ∀ (l : List α) (r : List UInt8) (wb : Bool), (∀ x ∈ l, ok x) → repS one l.length ⟨l.flatMap enc ++ r, wb, false⟩ = (l, ⟨r, wb, false⟩)
 | [], r, wb, _ => rfl
 | x :: l, r, wb, hx => by
  rw [List.flatMap_cons, List.append_assoc, List.length_cons]
  show ((one ⟨enc x ++ (l.flatMap enc ++ r), wb, false⟩).1 :: (repS one l.length (one ⟨enc x ++ (l.flatMap enc ++ r), wb, false⟩).2).1, (repS one l.length (one ⟨enc x ++ (l.flatMap enc ++ r), wb, false⟩).2).2) = _
  rw [h.there x _ wb (hx x (by simp))]
  dsimp only
  rw [mp_ h l r wb (fun y hy => hx y (List.mem_cons_of_mem _ hy))]
theorem qh_ {α : Type} {ok : α → Prop} {enc : α → List UInt8} {one : RS → α × RS} (h : Codec α ok enc one) : ∀ (k : Nat) (s : RS), (repS one k s).2.wb = false → (repS one k s).2.db = false →
 s.wb = false ∧ s.db = false ∧ (∀ x ∈ (repS one k s).1, ok x) ∧ s.rest = (repS one k s).1.flatMap enc ++ (repS one k s).2.rest ∧ (repS one k s).1.length = k
 | 0, s, h1, h2 => ⟨h1, h2, fun x hx => by simp [repS] at hx, rfl, rfl⟩
 | k + 1, s, h1, h2 => by
  obtain ⟨a1, a2, a3, a4, a5⟩ := qh_ h k (one s).2 h1 h2
  obtain ⟨b1, b2, b3, b4⟩ := h.back s a1 a2
  refine ⟨b1, b2, ?_, ?_, congrArg (· + 1) a5⟩
  · intro x hx
    rcases List.mem_cons.1 hx with rfl | hx
    · exact b3
    · exact a3 x hx
  · show s.rest = ((one s).1 :: (repS one k (one s).2).1).flatMap enc ++ _
    rw [List.flatMap_cons, List.append_assoc]
    exact b4.trans (congrArg _ a4)
theorem t3_ {α : Type} {ok : α → Prop} {enc : α → List UInt8} {one : RS → α × RS} (h : Codec α ok enc one) (k : Nat) : Codec (List α) (fun l => (∀ x ∈ l, ok x) ∧ l.length = k + 1) (fun l => l.flatMap enc) (repS one (k + 1)) where
 ne := fun l ho e => by
  match l, ho with
  | [], ho => simp at ho
  | x :: l, ho =>
   rw [List.flatMap_cons] at e
   exact h.ne x (ho.1 x (by simp)) (List.append_eq_nil_iff.1 e).1
 there := fun l r wb hx => by
  have := mp_ h l r wb hx.1
  rw [hx.2] at this
  exact this
 back := fun s h1 h2 => by
  obtain ⟨a1, a2, a3, a4, a5⟩ := qh_ h (k + 1) s h1 h2
  exact ⟨a1, a2, ⟨a3, a5⟩, a4⟩
 bad := o1_ h (k + 1)
def kk_ (b : Bool) : List UInt8 := intL (if b then 1 else 0)
def o2_ (s : RS) : Bool × RS := (decide ((intS s).1 = 1), ⟨(intS s).2.rest, (intS s).2.wb, (intS s).2.db || decide ((intS s).1 ≠ 0 ∧ (intS s).1 ≠ 1)⟩)
theorem rx_ : Codec Bool (fun _ => True) kk_ o2_ where
 ne := fun b _ => cc_.ne _ (by unfold I64; split <;> omega)
 there := fun b r wb _ => by
  unfold o2_ kk_
  rw [cc_.there _ r wb (by unfold I64; split <;> omega)]
  cases b <;> rfl
 back := fun s h1 h2 => by
  unfold o2_ at *
  dsimp only at *
  rw [Bool.or_eq_false_iff, decide_eq_false_iff_not] at h2
  obtain ⟨a1, a2, a3, a4⟩ := cc_.back s h1 h2.1
  refine ⟨a1, a2, trivial, ?_⟩
  unfold kk_
  by_cases h : (intS s).1 = 1
  · rw [decide_eq_true h, if_pos rfl]
    rw [h] at a4
    exact a4
  · have h0 : (intS s).1 = 0 := Decidable.not_not.1 fun h0 => h2.2 ⟨h0, h⟩
    rw [decide_eq_false h, if_neg (by decide)]
    rw [h0] at a4
    exact a4
 bad := fun s => by
  unfold o2_
  dsimp only
  refine ⟨(cc_.bad s).1, fun e => ?_⟩
  rw [(cc_.bad s).2 e]
  rfl
abbrev ModD := List UInt8 × List UInt8 × Int × Int × Bool
abbrev StrD := Int × List UInt8 × List UInt8 × List UInt8 × Int × Int × Int
abbrev CpuD := List Int
abbrev ThrD := CpuD × Int × Int × Int × Int × List CpuD
abbrev ChkD := Int × List UInt8
abbrev fx_ := List ModD × List StrD × List ThrD × List ChkD
def modS : RS → ModD × RS := dn_ d8_ (dn_ d8_ (dn_ intS (dn_ intS o2_)))
def strS : RS → StrD × RS := dn_ intS (dn_ d8_ (dn_ d8_ (dn_ d8_ (dn_ intS (dn_ intS intS)))))
def cpuS : RS → CpuD × RS := repS intS 17
def thrS : RS → ThrD × RS := dn_ cpuS (dn_ intS (dn_ intS (dn_ intS (dn_ intS (du_ cpuS)))))
def chkS : RS → ChkD × RS := dn_ intS d8_
def o3_ : RS → fx_ × RS := dn_ (du_ modS) (dn_ (du_ strS) (dn_ (du_ thrS) (du_ chkS)))
def modL (m : ModD) : List UInt8 := bm_ m.1 ++ (bm_ m.2.1 ++ (intL m.2.2.1 ++ (intL m.2.2.2.1 ++ kk_ m.2.2.2.2)))
def strL (x : StrD) : List UInt8 := intL x.1 ++ (bm_ x.2.1 ++ (bm_ x.2.2.1 ++ (bm_ x.2.2.2.1 ++ (intL x.2.2.2.2.1 ++ (intL x.2.2.2.2.2.1 ++ intL x.2.2.2.2.2.2)))))
def cpuL (c : CpuD) : List UInt8 := c.flatMap intL
def thrL (t : ThrD) : List UInt8 := cpuL t.1 ++ (intL t.2.1 ++ (intL t.2.2.1 ++ (intL t.2.2.2.1 ++ (intL t.2.2.2.2.1 ++ bz_ cpuL t.2.2.2.2.2))))
def chkL (c : ChkD) : List UInt8 := intL c.1 ++ bm_ c.2
def cx_ (d : fx_) : List UInt8 := bz_ modL d.1 ++ (bz_ strL d.2.1 ++ (bz_ thrL d.2.2.1 ++ bz_ chkL d.2.2.2))
def cpuOk (c : CpuD) : Prop := (∀ n ∈ c, I64 n) ∧ c.length = 17
def modOk (m : ModD) : Prop := g3_ m.1 ∧ g3_ m.2.1 ∧ I64 m.2.2.1 ∧ I64 m.2.2.2.1 ∧ True
def strOk (x : StrD) : Prop := I64 x.1 ∧ g3_ x.2.1 ∧ g3_ x.2.2.1 ∧ g3_ x.2.2.2.1 ∧ I64 x.2.2.2.2.1 ∧ I64 x.2.2.2.2.2.1 ∧ I64 x.2.2.2.2.2.2
def thrOk (t : ThrD) : Prop := cpuOk t.1 ∧ I64 t.2.1 ∧ I64 t.2.2.1 ∧ I64 t.2.2.2.1 ∧ I64 t.2.2.2.2.1 ∧ ((∀ c ∈ t.2.2.2.2.2, cpuOk c) ∧ t.2.2.2.2.2.length ≤ 9223372036854775807)
def chkOk (c : ChkD) : Prop := I64 c.1 ∧ g3_ c.2
def er_ (d : fx_) : Prop := ((∀ m ∈ d.1, modOk m) ∧ d.1.length ≤ 9223372036854775807) ∧ ((∀ x ∈ d.2.1, strOk x) ∧ d.2.1.length ≤ 9223372036854775807) ∧ ((∀ t ∈ d.2.2.1, thrOk t) ∧ d.2.2.1.length ≤ 9223372036854775807) ∧ ((∀ c ∈ d.2.2.2, chkOk c) ∧ d.2.2.2.length ≤ 9223372036854775807)
theorem t4_ : Codec ModD modOk modL modS := fe_.pair (fe_.pair (cc_.pair (cc_.pair rx_)))
theorem t5_ : Codec StrD strOk strL strS := cc_.pair (fe_.pair (fe_.pair (fe_.pair (cc_.pair (cc_.pair cc_)))))
theorem mq_ : Codec CpuD cpuOk cpuL cpuS := t3_ cc_ 16
theorem t6_ : Codec ThrD thrOk thrL thrS := mq_.pair (cc_.pair (cc_.pair (cc_.pair (cc_.pair (f5_ mq_)))))
theorem t7_ : Codec ChkD chkOk chkL chkS := cc_.pair fe_
theorem ia_ : Codec fx_ er_ cx_ o3_ := (f5_ t4_).pair ((f5_ t5_).pair ((f5_ t6_).pair (f5_ t7_)))
def iq_ (l : List UInt8) : fx_ × RS := o3_ ⟨l, false, false⟩
def fn_ (l : List UInt8) : Bool := !(iq_ l).2.db && (!(iq_ l).2.wb && (iq_ l).2.rest.isEmpty)
theorem k2_ (d : fx_) (h : er_ d) : iq_ (cx_ d) = (d, ⟨[], false, false⟩) := by
 have := ia_.there d [] false h
 rw [List.append_nil] at this
 exact this
theorem t8_ (d : fx_) (h : er_ d) (x : UInt8) : fn_ (cx_ d ++ [x]) = false := by
 have := ia_.there d [x] false h
 unfold fn_ iq_
 rw [this]
 rfl
theorem t9_ (l : List UInt8) (h : fn_ l = true) : cx_ (iq_ l).1 = l ∧ er_ (iq_ l).1 := by
 unfold fn_ at h
 rw [Bool.and_eq_true, Bool.and_eq_true, Bool.not_eq_true', Bool.not_eq_true'] at h
 obtain ⟨h1, h2, h3⟩ := h
 obtain ⟨_, _, a3, a4⟩ := ia_.back ⟨l, false, false⟩ h2 h1
 have h4 : (iq_ l).2.rest = [] := List.isEmpty_iff.1 h3
 refine ⟨?_, a3⟩
 show cx_ (o3_ ⟨l, false, false⟩).1 = l
 have a4' : l = cx_ (o3_ ⟨l, false, false⟩).1 ++ (o3_ ⟨l, false, false⟩).2.rest := a4
 have h4' : (o3_ ⟨l, false, false⟩).2.rest = [] := h4
 rw [h4', List.append_nil] at a4'
 exact a4'.symm
end Wire
section
open Go.RowKit Wire
def ch_ (lo : Nat) (w w' : World) : Prop := w.heap.size ≤ w'.heap.size ∧ ∀ g, lo ≤ g → g < w.heap.size → w'.heap[g]? = w.heap[g]?
theorem ch_.below {lo : Nat} {w w' : World} (h : Below w.heap.size w w') : ch_ lo w w' := ⟨h.size, fun g _ h2 => h.block g h2⟩
theorem ch_.only {lo : Nat} {S : Nat → Prop} {w w' : World} (h : Only S w w') (hS : ∀ g, S g → g < lo) : ch_ lo w w' :=
 ⟨h.size, fun g h1 h2 => h.block g h2 (fun hs => by have := hS g hs; omega)⟩
theorem ch_.refl (lo : Nat) (w : World) : ch_ lo w w := ⟨Nat.le_refl _, fun _ _ _ => rfl⟩
theorem ch_.trans {lo : Nat} {a b c : World} (h : ch_ lo a b) (k : ch_ lo b c) : ch_ lo a c :=
 ⟨Nat.le_trans h.1 k.1, fun g h1 h2 => (k.2 g h1 (Nat.lt_of_lt_of_le h2 h.1)).trans (h.2 g h1 h2)⟩
theorem ch_.cell {lo : Nat} {w w' : World} (h : ch_ lo w w') {g : Nat} (h1 : lo ≤ g) (h2 : g < w.heap.size) (o : Nat) : w'.cell? ⟨g, o, none⟩ = w.cell? ⟨g, o, none⟩ := by
 simp [World.cell?, h.2 g h1 h2]
theorem ch_.range {lo : Nat} {w w' : World} (h : ch_ lo w w') {g : Nat} (h1 : lo ≤ g) (h2 : g < w.heap.size) {o : Nat} {cs : List Value} (hr : w.rangeAt g o cs) : w'.rangeAt g o cs :=
 fun j v hv => (h.cell h1 h2 _).trans (hr j v hv)
def RowV {α : Type} (size lo : Nat) (R : World → List Value → α → Prop) (w : World) (v : Value) (l : List α) : Prop :=
 (l = [] ∧ ∃ b c, v = .slice b 0 c) ∨ ∃ g o cap, v = .slice (some ⟨g, o, none⟩) l.length cap ∧ lo ≤ g ∧ g < w.heap.size ∧ ∀ i (h : i < l.length), ∃ cs, R w cs l[i] ∧ w.rangeAt g (o + i * size) cs
theorem RowV.kept {α : Type} {size lo : Nat} {R : World → List Value → α → Prop} {w w' : World} {v : Value} {l : List α} (h : RowV size lo R w v l) (hk : ch_ lo w w') (hR : ∀ cs x, R w cs x → R w' cs x) : RowV size lo R w' v l := by
 rcases h with h | ⟨g, o, cap, h1, h2, h3, h4⟩
 · exact .inl h
 · exact .inr ⟨g, o, cap, h1, h2, Nat.lt_of_lt_of_le h3 hk.1, fun i hi => by
    obtain ⟨cs, a, b⟩ := h4 i hi
    exact ⟨cs, hR cs _ a, hk.range h2 h3 b⟩⟩
def strB (l : List UInt8) : Value := .string ⟨l.toArray⟩
def cpuR (_ : World) (cs : List Value) (c : CpuD) : Prop := cs = c.map (Value.int .i64) ∧ c.length = 17
def modR (_ : World) (cs : List Value) (m : ModD) : Prop := cs = [strB m.1, strB m.2.1, .int .i64 m.2.2.1, .int .i64 m.2.2.2.1, .bool m.2.2.2.2]
def strR (_ : World) (cs : List Value) (x : StrD) : Prop := cs = [.int .i64 x.1, strB x.2.1, strB x.2.2.1, strB x.2.2.2.1, .int .i64 x.2.2.2.2.1, .int .i64 x.2.2.2.2.2.1, .int .i64 x.2.2.2.2.2.2]
def thrR (lo : Nat) (w : World) (cs : List Value) (t : ThrD) : Prop := ∃ v, cs = t.1.map (Value.int .i64) ++ [.int .i64 t.2.1, .int .i64 t.2.2.1, .int .i64 t.2.2.2.1, .int .i64 t.2.2.2.2.1, v] ∧ t.1.length = 17 ∧ RowV 17 lo cpuR w v t.2.2.2.2.2
def chkR (_ : World) (cs : List Value) (c : ChkD) : Prop := cs = [.int .i64 c.1, strB c.2]
def et_ (lo : Nat) (w : World) (v : Value) (D : fx_) : Prop := ∃ a b c d, v = .agg #[a, b, c, d] ∧ RowV 5 lo modR w a D.1 ∧ RowV 7 lo strR w b D.2.1 ∧ RowV 22 lo (thrR lo) w c D.2.2.1 ∧ RowV 2 lo chkR w d D.2.2.2
theorem thrR.kept {lo : Nat} {w w' : World} (hk : ch_ lo w w') (cs : List Value) (t : ThrD) (h : thrR lo w cs t) : thrR lo w' cs t := by
 obtain ⟨v, h1, h2, h3⟩ := h
 exact ⟨v, h1, h2, h3.kept hk (fun _ _ h => h)⟩
theorem et_.kept {lo : Nat} {w w' : World} {v : Value} {D : fx_} (h : et_ lo w v D) (hk : ch_ lo w w') : et_ lo w' v D := by
 obtain ⟨a, b, c, d, h1, h2, h3, h4, h5⟩ := h
 exact ⟨a, b, c, d, h1, h2.kept hk (fun _ _ h => h), h3.kept hk (fun _ _ h => h), h4.kept hk (fun cs x h => h.kept hk), h5.kept hk (fun _ _ h => h)⟩
theorem RowV.lower {α : Type} {size lo lo' : Nat} {R R' : World → List Value → α → Prop} {w : World} {v : Value} {l : List α} (h : RowV size lo R w v l) (hl : lo' ≤ lo) (hR : ∀ cs x, R w cs x → R' w cs x) : RowV size lo' R' w v l := by
 rcases h with h | ⟨g, o, cap, h1, h2, h3, h4⟩
 · exact .inl h
 · exact .inr ⟨g, o, cap, h1, Nat.le_trans hl h2, h3, fun i hi => by
    obtain ⟨cs, a, b⟩ := h4 i hi
    exact ⟨cs, hR cs _ a, b⟩⟩
theorem et_.lower {lo lo' : Nat} {w : World} {v : Value} {D : fx_} (h : et_ lo w v D) (hl : lo' ≤ lo) : et_ lo' w v D := by
 obtain ⟨a, b, c, d, h1, h2, h3, h4, h5⟩ := h
 exact ⟨a, b, c, d, h1, h2.lower hl (fun _ _ h => h), h3.lower hl (fun _ _ h => h), h4.lower hl (fun cs t h => by
  obtain ⟨v, k1, k2, k3⟩ := h
  exact ⟨v, k1, k2, k3.lower hl (fun _ _ h => h)⟩), h5.lower hl (fun _ _ h => h)⟩
theorem et_.below {lo : Nat} {w w' : World} {v : Value} {D : fx_} (h : et_ lo w v D) (hb : Below w.heap.size w w') : et_ lo w' v D := h.kept (ch_.below hb)
end
section
open Go.RowKit
attribute [local go_sem] ak_ af_
def f6_ (T : TypeId) (tl : List Value) (B b : Nat) (p : Value) (bs : List UInt8) (w : World) : Prop :=
 B ≤ b ∧ ∃ v, w.heap[b]? = some (.cells (p :: v :: tl).toArray T (0, 0)) ∧ w.ownsRow B 5 1 v bs.length (byteCells bs) ∧ v.ownBlock ≠ some b
def a9_ (T : TypeId) (tl : List Value) (B b : Nat) (bs : List UInt8) (w : World) : Prop := f6_ T tl B b (.pointer none) bs w ∨ f6_ T tl B b (.pointer (some ⟨b, 0, none⟩)) bs w
structure BldTy (T : TypeId) (tl : List Value) : Prop where
 lies : liesAt Tryz.prog Tryz.prog.depth T ((2 + tl.length) / Tryz.prog.cellsOf T) 0 77 1 = true
 ne : T ≠ 5
theorem c6_ : BldTy 77 [] := ⟨by kernel_rfl, by decide⟩
theorem wy_ : (Tryz.prog.info? 77).map (·.size) = some 2 := by kernel_rfl
theorem a9_.fresh {T : TypeId} {tl : List Value} {B b : Nat} {w : World} (hB : B ≤ b) (h : w.heap[b]? = some (.cells (.pointer none :: .slice none 0 0 :: tl).toArray T (0, 0))) : a9_ T tl B b [] w :=
 .inl ⟨hB, .slice none 0 0, h, World.ownsRow_nil _ _ _ _, by simp [Value.ownBlock]⟩
theorem f6_.is {T : TypeId} {tl : List Value} {B b : Nat} {bs : List UInt8} {w : World} (h : f6_ T tl B b (.pointer (some ⟨b, 0, none⟩)) bs w) : a9_ T tl B b bs w := .inr h
theorem a9_.any {T : TypeId} {tl : List Value} {B b : Nat} {bs : List UInt8} {w : World} (h : a9_ T tl B b bs w) : ∃ p, f6_ T tl B b p bs w := by
 rcases h with h | h
 · exact ⟨_, h⟩
 · exact ⟨_, h⟩
theorem f6_.below {T : TypeId} {tl : List Value} {B b : Nat} {p : Value} {bs : List UInt8} {w w' : World} (h : f6_ T tl B b p bs w) (hb : Below w.heap.size w w') : f6_ T tl B b p bs w' := by
 obtain ⟨h1, v, h2, h3, h4⟩ := h
 exact ⟨h1, v, at_b hb h2, ai_ h3 hb, h4⟩
theorem a9_.below {T : TypeId} {tl : List Value} {B b : Nat} {bs : List UInt8} {w w' : World} (h : a9_ T tl B b bs w) (hb : Below w.heap.size w w') : a9_ T tl B b bs w' := by
 rcases h with h | h
 · exact .inl (h.below hb)
 · exact .inr (h.below hb)
theorem a9_.lt {T : TypeId} {tl : List Value} {B b : Nat} {bs : List UInt8} {w : World} (h : a9_ T tl B b bs w) : b < w.heap.size := by
 obtain ⟨p, _, v, hb, _⟩ := h.any
 exact lt_of_block hb
theorem a9_.base {T : TypeId} {tl : List Value} {B b : Nat} {bs : List UInt8} {w : World} (h : a9_ T tl B b bs w) : B ≤ b := by
 obtain ⟨p, h, _⟩ := h.any
 exact h
def an_ (b : Nat) (w w' : World) : Prop := ∀ k o, k ≠ b → w.heap[k]? = some o → (∀ cs fr, o ≠ .cells cs 5 fr) → w'.heap[k]? = some o
theorem an_.refl (b : Nat) (w : World) : an_ b w w := fun _ _ _ h _ => h
theorem an_.trans {b : Nat} {w w1 w2 : World} (h : an_ b w w1) (k : an_ b w1 w2) : an_ b w w2 := fun x o hx ho hn => k x o hx (h x o hx ho hn) hn
theorem an_.below {b : Nat} {w w1 : World} (h : Below w.heap.size w w1) : an_ b w w1 := fun x o _ ho _ => at_b h ho
theorem an_.only {b : Nat} {w w1 : World} (h : Only (· = b) w w1) : an_ b w w1 := fun x o hx ho _ => h.kept ho hx
theorem an_.at_ {b : Nat} {w w1 : World} (h : an_ b w w1) {k : Nat} {cs : Array Value} {t : TypeId} {fr : Nat × Nat} (hk : w.heap[k]? = some (.cells cs t fr)) (hb : k ≠ b) (ht : t ≠ 5) : w1.heap[k]? = some (.cells cs t fr) :=
 h k _ hb hk (fun cs fr e => by cases e; exact ht rfl)
theorem an_.grown {b : Nat} {w w1 : World} {base : Nat} {v : Value} {n : Nat} {xs : List Value} (hown : w.ownsRow base 5 1 v n xs) (hg : w.grownBy w1 v.ownBlock) : an_ b w w1 := fun x o _ ho hn => by
 rw [hg.block x (lt_of_block ho) (fun e => ?_)]
 · exact ho
 · rcases hown.2 with ⟨h1, _⟩ | ⟨g', cap, cur', h1, _, h3, _⟩
   · rw [h1] at e; simp [Value.ownBlock] at e
   · rw [h1] at e
     simp [Value.ownBlock] at e
     subst e
     rw [ho] at h3
     cases h3
     exact hn _ _ rfl
theorem bcheck (T : TypeId) (tl : List Value) (hT : BldTy T tl) (B b : Nat) (bs : List UInt8) (w : World) (h : a9_ T tl B b bs w) :
 Calls Tryz.prog 44 #[.pointer (some ⟨b, 0, none⟩)] w fun e w' => e = .returned (.tuple #[]) ∧ f6_ T tl B b (.pointer (some ⟨b, 0, none⟩)) bs w' ∧ Below B w w' ∧ an_ b w w' := by
 obtain ⟨j, hj, hjs⟩ := Option.map_eq_some_iff.1 wy_
 have HT := h1_ hT
 have HJ := h2_ hj hjs
 rcases h with h | h
 · have HH := h1_ h
   obtain ⟨hB, v, hb, hown, hne⟩ := h
   have c0 := ab_ hb 0 rfl
   have f0 := ag_ hb 0
   have hsh : w.shape? b = some (T, 2 + tl.length) := by simp [World.shape?, hb]; omega
   have HS := h1_ hsh
   clear hT hj hjs hown hne hb hsh hB
   go_enter Tryz.func44, Tryz.ntmps44
   go_wp2
   rw [Lib.run_to_unsafe w ⟨b, 0, none⟩ Tryz.underlying74 Tryz.underlying211 HJ.out.1 (by rw [HJ.out.2]; decide) HS.out (by show 0 < 2 + tl.length; omega)]
   go_wp2
   rw [run_callFunc_extern Tryz.func94 (by kernel_rfl) (by kernel_rfl) (by kernel_rfl) (e := Extern.AbiNoEscape.same) (by kernel_rfl)]
   rw [Lib.run_noEscape]
   simp only [Result.andThen]
   rw [Oper.upon_value]
   go_wp2
   rw [Lib.run_from_unsafe w ⟨b, 0, none⟩ Tryz.underlying211 Tryz.underlying74 HJ.out.1 HS.out HT.out.lies]
   simp only [Result.andThen]
   rw [Oper.upon_value]
   go_wp2
   go_end0
   obtain ⟨hB, v, hb, hown, hne⟩ := HH.out
   have ho : Only (· = b) w (w.setCell ⟨b, 0, none⟩ (.pointer (some ⟨b, 0, none⟩))) := (Only.refl (· = b) w).setCell _ _ (.inl rfl)
   refine ⟨rfl, ⟨hB, v, aj_ hb 0 _, ?_, hne⟩, (Below.refl B w).setCell (p := ⟨b, 0, none⟩) hB _, an_.only ho⟩
   rcases hown.2 with ⟨rfl, h0⟩ | ⟨g, cap, cur, rfl, h1, h2, h3⟩
   · exact ⟨hown.1, .inl ⟨rfl, h0⟩⟩
   · exact ao_ hown ho (fun e => hne (by rw [e]; rfl))
 · have c0 : w.cell? ⟨b, 0, none⟩ = some (.pointer (some ⟨b, 0, none⟩)) := by
    obtain ⟨hB, v, hb, hown, hne⟩ := h
    exact ab_ hb 0 rfl
   have HH := h1_ h
   clear h hT hj hjs
   go_enter Tryz.func44, Tryz.ntmps44
   go_wp2
   rw [Lib.run_neq_ptr_same w _ Tryz.underlying74 HJ.out.1]
   go_wp2
   go_end0
   exact ⟨rfl, HH.out, Below.refl _ _, an_.refl _ _⟩
theorem f6_.put {T : TypeId} {tl : List Value} {B b : Nat} {p v v' : Value} {bs' : List UInt8} {w2 : World} (hT : T ≠ 5) (hB : B ≤ b) (hb : w2.heap[b]? = some (.cells (p :: v :: tl).toArray T (0, 0))) (hown : w2.ownsRow B 5 1 v' bs'.length (byteCells bs')) :
 f6_ T tl B b p bs' (w2.setCell ⟨b, 1, none⟩ v') := by
 have ho : Only (· = b) w2 (w2.setCell ⟨b, 1, none⟩ v') := (Only.refl (· = b) w2).setCell _ _ (.inl rfl)
 have hne : v'.ownBlock ≠ some b := by
  rcases hown.2 with ⟨rfl, h0⟩ | ⟨g, cap, cur, rfl, h1, h2, h3⟩
  · simp [Value.ownBlock]
  · intro e
    simp [Value.ownBlock] at e
    subst e
    rw [hb] at h2
    cases h2
    exact hT rfl
 refine ⟨hB, v', aj_ hb 1 _, ?_, hne⟩
 rcases hown.2 with ⟨rfl, h0⟩ | ⟨g, cap, cur, rfl, h1, h2, h3⟩
 · exact ⟨hown.1, .inl ⟨rfl, h0⟩⟩
 · exact ao_ hown ho (fun e => hne (by rw [e]; rfl))
theorem kl_ (l : List UInt8) : Lib.strCells ⟨l.toArray⟩ = byteCells l := by
 unfold Lib.strCells byteCells
 simp
theorem c7_ (T : TypeId) (tl : List Value) (hT : BldTy T tl) (B b : Nat) (bs l : List UInt8) (w : World) (h : a9_ T tl B b bs w) (hlen : bs.length + l.length ≤ 140737488355328) (hBw : B ≤ w.heap.size) :
 Calls Tryz.prog 14 #[.pointer (some ⟨b, 0, none⟩), strB l] w fun e w' => e = .returned (.tuple #[.int .i64 l.length, .nilIface]) ∧ f6_ T tl B b (.pointer (some ⟨b, 0, none⟩)) (bs ++ l) w' ∧ Below B w w' ∧ an_ b w w' := by
 obtain ⟨i0, hi, hz0, hz1, hz2⟩ := info_parts fj_
 unfold strB
 obtain ⟨S, hS⟩ : ∃ S, S = (⟨l.toArray⟩ : ByteArray) := ⟨_, rfl⟩
 have hsz : S.size = l.length := by rw [hS]; rfl
 have hcs : Lib.strCells S = byteCells l := by rw [hS]; exact kl_ l
 have HS := h3_ hsz hcs hS
 have hsz' : bs.length + S.size ≤ 140737488355328 := by omega
 rw [← hS]
 clear hS hsz hcs hlen
 have HT := h1_ hT
 clear hT
 go_enter Tryz.func14, Tryz.ntmps14
 go_wp2_with (go_at_call 44; refine (bcheck T tl HT.out B b bs _ h).mono ?_)
 rintro e w1 ⟨rfl, ⟨hB, v, hbk, hown, hne⟩, hb1, hkn⟩
 have HK := h1_ hkn
 clear hkn
 have c0 := ab_ hbk 0 rfl
 have c1 := ab_ hbk 1 rfl
 go_wp2_with (at_builtin; refine Lib.wpList_append_own_string _ rfl _ _ 75 9 rfl B 5 i0 Tryz.underlying75 Tryz.underlying9 hi hz0 hz1 hz2 _ _ _ rfl hown S rfl ?c3 ?c4 ?c5 ?_)
 case c3 => unfold maxLen; omega
 case c4 => omega
 case c5 => have := hb1.size; omega
 intro v' w2 hown' hgrow _
 have hb2 : w2.heap[b]? = some (.cells (.pointer (some ⟨b, 0, none⟩) :: v :: tl).toArray T (0, 0)) := (hgrow.block b (lt_of_block hbk) (fun e => hne e.symm)).trans hbk
 have d0 := ab_ hb2 0 rfl
 have d1 := ab_ hb2 1 rfl
 have f1 := ag_ hb2 1
 have HH := h6_ hB hb2 hown' hgrow hb1 hown
 obtain ⟨ao, n', cap, rfl⟩ : ∃ ao n' cap, v' = .slice ao n' cap := by
  rcases hown'.2 with ⟨hv, _⟩ | ⟨g, cap, cur, hv, _⟩
  · exact ⟨_, _, _, hv⟩
  · exact ⟨_, _, _, hv⟩
 clear hB hb2 hown' hgrow hb1 hown hbk hne c0 c1 h
 go_wp2
 go_ret2
 obtain ⟨hB, hb2, hown', hgrow, hb1, hown⟩ := HH.out
 obtain ⟨hsz, hcs, hS⟩ := HS.out
 refine ⟨by simp [hsz], ?_, ?_, HK.out.trans ((an_.grown hown hgrow).trans (an_.only ((Only.refl (· = b) w2).setCell _ _ (.inl rfl))))⟩
 · refine f6_.put HT.out.ne hB hb2 ?_
   rw [hcs, hsz] at hown'
   rw [List.length_append]
   unfold byteCells at hown' ⊢
   rw [List.map_append]
   exact hown'
 · exact (hb1.grown hgrow (by have := hb1.size; omega) (fun k hk => (hown.lt k hk).1)).setCell (p := ⟨b, 1, none⟩) hB _
theorem bbyte (T : TypeId) (tl : List Value) (hT : BldTy T tl) (B b : Nat) (bs : List UInt8) (c : UInt8) (w : World) (h : a9_ T tl B b bs w) (hlen : bs.length + 1 ≤ 140737488355328) (hBw : B ≤ w.heap.size) :
 Calls Tryz.prog 182 #[.pointer (some ⟨b, 0, none⟩), .int .u8 (c.toNat : Int)] w fun e w' => e = .returned .nilIface ∧ f6_ T tl B b (.pointer (some ⟨b, 0, none⟩)) (bs ++ [c]) w' ∧ Below B w w' ∧ an_ b w w' := by
 obtain ⟨i0, hi, hz0, hz1, hz2⟩ := info_parts fj_
 have HT := h1_ hT
 clear hT
 go_enter Tryz.func182, Tryz.ntmps182
 go_wp2_with (go_at_call 44; refine (bcheck T tl HT.out B b bs _ h).mono ?_)
 rintro e w1 ⟨rfl, ⟨hB, v, hbk, hown, hne⟩, hb1, hkn⟩
 have HK := h1_ hkn
 clear hkn
 have c0 := ab_ hbk 0 rfl
 have c1 := ab_ hbk 1 rfl
 have lb := lt_of_block hbk
 go_wp2_with (at_builtin; refine wpList_append_own _ rfl _ _ 75 rfl B 5 i0 (.int .u8 0) 1 1 Tryz.underlying75 hi hz0 hz1 hz2 rfl (by decide) _ _ _ rfl (hown.alloc _) ⟨w1.heap.size, 0, none⟩ 1 1 [.int .u8 (c.toNat : Int)] rfl rfl ?c1 ?c2 ?c3 ?c4 ?c5 ?_)
 case c1 =>
  intro j u hj
  have hn := heap_alloc_new w1 (.cells #[.int .u8 (c.toNat : Int)] 5)
  have : (w1.alloc (.cells #[.int .u8 (c.toNat : Int)] 5)).cell? ⟨w1.heap.size, j, none⟩ = some u := ab_ (l := [.int .u8 (c.toNat : Int)]) hn j hj
  rw [hx_]; exact this
 case c2 => simp [Value.oneCell']
 case c3 => unfold maxLen; omega
 case c4 => omega
 case c5 => have := hb1.size; simp; omega
 intro v' w2 hown' hgrow _
 have hb2 : w2.heap[b]? = some (.cells (.pointer (some ⟨b, 0, none⟩) :: v :: tl).toArray T (0, 0)) := (hgrow.block b (by simp; omega) (fun e => hne e.symm)).trans (ae_ hbk)
 have d0 := ab_ hb2 0 rfl
 have d1 := ab_ hb2 1 rfl
 have f1 := ag_ hb2 1
 have HH := h6_ hB hb2 hown' hgrow hb1 hown
 obtain ⟨ao, n', cap, rfl⟩ : ∃ ao n' cap, v' = .slice ao n' cap := by
  rcases hown'.2 with ⟨hv, _⟩ | ⟨g, cap, cur, hv, _⟩
  · exact ⟨_, _, _, hv⟩
  · exact ⟨_, _, _, hv⟩
 clear hB hb2 hown' hgrow hb1 hown hbk hne c0 c1 h
 go_wp2
 go_ret
 obtain ⟨hB, hb2, hown', hgrow, hb1, hown⟩ := HH.out
 refine ⟨rfl, ?_, ?_, HK.out.trans ((an_.below ((Below.refl _ _).alloc (Nat.le_refl _) _)).trans ((an_.grown (hown.alloc _) hgrow).trans (an_.only ((Only.refl (· = b) w2).setCell _ _ (.inl rfl)))))⟩
 · refine f6_.put (bs' := bs ++ [c]) HT.out.ne hB hb2 ?_
   rw [List.length_append]
   unfold byteCells at hown' ⊢
   rw [List.map_append]
   exact hown'
 · exact ((hb1.alloc (by have := hb1.size; omega) _).grown hgrow (by have := hb1.size; simp; omega) (fun k hk => (hown.lt k hk).1)).setCell (p := ⟨b, 1, none⟩) hB _
theorem o4_ (T : TypeId) (tl : List Value) (hT : BldTy T tl) (B b : Nat) (l : List UInt8) (w : World) (h : a9_ T tl B b l w) (h0 : l ≠ []) :
 Calls Tryz.prog 19 #[.pointer (some ⟨b, 0, none⟩)] w fun e w' => e = .returned (strB l) ∧ Below B w w' := by
 obtain ⟨p, hB, v, hbk, hown, hne⟩ := h.any
 have hl0 : l.length ≠ 0 := by simpa using h0
 obtain ⟨g, cap, cur, rfl, hbg, hg, hnc, hcm, hcs, htake⟩ : ∃ g cap cur, v = .slice (some ⟨g, 0, none⟩) l.length cap ∧ B ≤ g ∧ w.heap[g]? = some (.cells cur 5 (0, 0)) ∧ l.length ≤ cap ∧ cap ≤ maxLen ∧ cur.size = cap * 1 ∧ cur.toList.take (l.length * 1) = byteCells l := by
  rcases hown.2 with ⟨_, hz⟩ | ⟨g, cap, cur, hv, r⟩
  · exact absurd hz hl0
  · exact ⟨g, cap, cur, hv, r⟩
 have c1 : w.drew.cell? ⟨b, 1, none⟩ = some (.slice (some ⟨g, 0, none⟩) l.length cap) := ab_ (w := w.drew) hbk 1 rfl
 have hSD : (Builtin.unsafeSliceData_ #[75] 148 #[.slice (some ⟨g, 0, none⟩) l.length cap]).run Tryz.prog w.drew = .ok (.pointer (some ⟨g, 0, none⟩)) w.drew :=
  Lib.run_unsafeSliceData_row _ _ _ _ _ _ (by omega)
 have hUS : (Builtin.unsafeString_ #[148, 3] 9 #[.pointer (some ⟨g, 0, none⟩), .int .i64 l.length]).run Tryz.prog w.drew = .ok (.string ⟨l.toArray⟩) (w.drew.freeze ⟨g, 0, none⟩ l.length) := by
  refine Lib.run_unsafeString_row w.drew 148 3 9 5 Tryz.underlying148 (by kernel_rfl) g cur.size (by have hg' : w.drew.heap[g]? = some (.cells cur 5 (0, 0)) := hg; simp [World.shape?, hg']) l h0 (by omega) (by unfold maxLen at hcm; omega) ?_
  intro j x hx
  have := hown.cells (g := g) rfl j (.int .u8 x.toNat) (by simp [byteCells, hx])
  exact this
 have HB := h1_ hbg
 clear hbg hg hnc hcm hcs htake hown hbk hne hl0 h0 h hT
 unfold strB
 go_enter Tryz.func19, Tryz.ntmps19
 go_wp2
 go_region
 all_goals (go_wp2; go_ret; exact ⟨rfl, Lib.below_freeze (Below.drew (Below.refl B w)) (p := ⟨g, 0, none⟩) HB.out _⟩)
end
namespace Wire
open Go Go.RowKit
theorem u64_ones (x : Nat) (hx : x < 18446744073709551616) : x ^^^ 18446744073709551615 = 18446744073709551615 - x := by
 have h : (x ^^^ 18446744073709551615) = (BitVec.ofNat 64 x ^^^ BitVec.allOnes 64).toNat := by
  rw [BitVec.toNat_xor, BitVec.toNat_ofNat, BitVec.toNat_allOnes, Nat.mod_eq_of_lt (by omega)]
 rw [h, BitVec.xor_allOnes, BitVec.toNat_not, BitVec.toNat_ofNat, Nat.mod_eq_of_lt (by omega)]
theorem wz_ (n : Int) (h : I64 n) : bits .xor .u64 (IntKind.u64.wrap (IntKind.u64.wrap n * 2)) (IntKind.u64.wrap (n / 9223372036854775808)) = (zig n : Int) := by
 unfold I64 at h
 rw [IntKind.wrap_u64, IntKind.wrap_u64, IntKind.wrap_u64]
 by_cases hn : 0 ≤ n
 · have e1 : (n % 18446744073709551616 * 2) % 18446744073709551616 = ((2 * n).toNat : Int) := by omega
   have e2 : n / 9223372036854775808 % 18446744073709551616 = ((0 : Nat) : Int) := by omega
   rw [e1, e2, u64_xor_nat _ _ (by omega) (by omega), Nat.xor_zero]
   unfold zig
   rw [if_pos hn]
 · have e1 : (n % 18446744073709551616 * 2) % 18446744073709551616 = ((18446744073709551616 + 2 * n).toNat : Int) := by omega
   have e2 : n / 9223372036854775808 % 18446744073709551616 = ((18446744073709551615 : Nat) : Int) := by omega
   rw [e1, e2, u64_xor_nat _ _ (by omega) (by omega), u64_ones _ (by omega)]
   unfold zig
   rw [if_neg hn]
   omega
theorem ry_ (m : Nat) (h : m < 18446744073709551616) (y : Int) (hy : y = -((m % 2 : Nat) : Int)) : bits .xor .i64 ((m / 2 : Nat) : Int) y = kj_ m := by
 have hb : IntKind.i64.bits = 64 := rfl
 unfold bits
 show IntKind.i64.wrap ((BitVec.ofInt 64 ((m / 2 : Nat) : Int) ^^^ BitVec.ofInt 64 y).toNat : Int) = kj_ m
 have ea : BitVec.ofInt 64 ((m / 2 : Nat) : Int) = BitVec.ofNat 64 (m / 2) := by
  apply BitVec.eq_of_toNat_eq
  rw [ofInt_u64 _ (by omega), BitVec.toNat_ofNat, Nat.mod_eq_of_lt (by omega)]
 rw [ea]
 unfold kj_
 by_cases hm : m % 2 = 0
 · have : y = 0 := by omega
   subst this
   rw [if_pos hm]
   have e0 : BitVec.ofInt 64 (0 : Int) = 0#64 := rfl
   rw [e0, BitVec.xor_zero, BitVec.toNat_ofNat, Nat.mod_eq_of_lt (by omega)]
   simp only [IntKind.wrap, IntKind.bits, IntKind.signed]
   simp
   omega
 · have : y = -1 := by omega
   subst this
   rw [if_neg hm]
   have e0 : BitVec.ofInt 64 (-1 : Int) = BitVec.allOnes 64 := by decide
   rw [e0, BitVec.xor_allOnes, BitVec.toNat_not, BitVec.toNat_ofNat, Nat.mod_eq_of_lt (by omega)]
   simp only [IntKind.wrap, IntKind.bits, IntKind.signed]
   simp
   omega
theorem w0_ (m : Nat) : bits .or .u8 ((m % 128 : Nat) : Int) 128 = ((UInt8.ofNat (m % 128 + 128)).toNat : Int) := by
 have h := u8_or_nat (m % 128) 128 (by omega) (by omega)
 have e : (128 : Int) = ((128 : Nat) : Int) := rfl
 rw [e, h, Nat.or_comm, nat_join 7 128 (m % 128) (by decide) (by omega)]
 have : (UInt8.ofNat (m % 128 + 128)).toNat = m % 128 + 128 := by simp [UInt8.toNat_ofNat']; omega
 rw [this]
 omega
theorem jr_ (acc c i : Nat) (hi : i < 10) (hc : c < 128) (h9 : i = 9 → c ≤ 1) (ha : acc < 2 ^ (7 * i)) : bits .or .u64 (acc : Int) (IntKind.u64.wrap ((c : Int) * 2 ^ (7 * i))) = ((acc + c * 2 ^ (7 * i) : Nat) : Int) := by
 have hlt : c * 2 ^ (7 * i) < 18446744073709551616 := by
  by_cases h : i = 9
  · subst h
    have := h9 rfl
    have : (2 : Nat) ^ (7 * 9) = 9223372036854775808 := by decide
    rw [this]
    omega
  · have h1 : 2 ^ (7 * i) ≤ 2 ^ 56 := Nat.pow_le_pow_right (by decide) (by omega)
    have h2 : (2 : Nat) ^ 56 = 72057594037927936 := by decide
    have h3 : c * 2 ^ (7 * i) ≤ 127 * 72057594037927936 := Nat.mul_le_mul (by omega) (by omega)
    omega
 have hal : acc < 18446744073709551616 := by
  have h1 : 2 ^ (7 * i) ≤ 2 ^ 63 := Nat.pow_le_pow_right (by decide) (by omega)
  have h2 : (2 : Nat) ^ 63 = 9223372036854775808 := by decide
  omega
 have e : (c : Int) * 2 ^ (7 * i) = ((c * 2 ^ (7 * i) : Nat) : Int) := by push_cast; rfl
 rw [e, IntKind.wrap_u64, Int.emod_eq_of_lt (by omega) (by omega), u64_or_nat _ _ hal hlt, Nat.or_comm, nat_join (7 * i) _ acc (Nat.mul_mod_left _ _) ha, Nat.add_comm]
end Wire
end Go.Proofs.YtacaejpamidkcaaGreatDoor
