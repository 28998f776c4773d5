/- dump: Bytes. dump: Same. linchpinlaw45.light. linchpinlaw45.DumpReads, over what its example gives. -/
import Derived.Test.YtacaejpamidkcaaGreatDoorR44
set_option linter.unusedVariables false
set_option linter.unusedSimpArgs false
set_option maxRecDepth 100000
set_option maxHeartbeats 8000000
namespace Go.Proofs.YtacaejpamidkcaaGreatDoor
section
open Go.RowKit Wire
attribute [local go_sem] ak_ af_
theorem RowV.slice {α : Type} {size lo : Nat} {R : World → List Value → α → Prop} {w : World} {v : Value} {l : List α} (h : RowV size lo R w v l) : ∃ p c, v = .slice p l.length c := by
 rcases h with ⟨h2, b, c, h1⟩ | ⟨g, o, cap, h1, _⟩
 · exact ⟨_, _, by rw [h1, h2]; rfl⟩
 · exact ⟨_, _, h1⟩
theorem RowV.at_ {α : Type} {size lo : Nat} {R : World → List Value → α → Prop} {w : World} {p : Option Addr} {n c : Nat} {l : List α} (h : RowV size lo R w (.slice p n c) l) (i : Nat) (hi : i < l.length) :
 ∃ g o, p = some ⟨g, o, none⟩ ∧ g < w.heap.size ∧ ∃ cs, R w cs l[i] ∧ w.rangeAt g (o + i * size) cs := by
 rcases h with ⟨h2, _⟩ | ⟨g, o, cap, h1, h2, h3, h4⟩
 · subst h2; exact absurd hi (Nat.not_lt_zero _)
 · injection h1 with e1 e2 e3
   exact ⟨g, o, e1, h3, h4 i hi⟩
theorem fq_ {α : Type} (f : α → List UInt8) (l : List α) (k : Nat) (h : k < l.length) : (l.take (k + 1)).flatMap f = (l.take k).flatMap f ++ f l[k] := by
 rw [List.take_succ_eq_append_getElem h, List.flatMap_append]
 simp
theorem fr_ {α : Type} (f : α → List UInt8) (l : List α) (k : Nat) (h : k < l.length) : ((l.take k).flatMap f).length + (f l[k]).length ≤ (l.flatMap f).length := by
 have := fq_ f l k h
 have h2 : ((l.take (k + 1)).flatMap f).length ≤ (l.flatMap f).length := by
  conv => rhs; rw [← List.take_append_drop (k + 1) l, List.flatMap_append, List.length_append]
  omega
 rw [this, List.length_append] at h2
 exact h2
theorem j5_ (D : fx_) (hok : er_ D) (hT : (cx_ D).length ≤ 34359738368) (lo : Nat) (v : Value) (w : World) (h : et_ lo w v D) :
 Calls Tryz.prog 6 #[v] w fun e w' => Below w.heap.size w w' ∧ e = .returned (strB (cx_ D)) := by
 obtain ⟨l1, l2, l3, l4⟩ := D
 obtain ⟨v1, v2, v3, v4, rfl, h1, h2, h3, h4⟩ := h
 dsimp only at h1 h2 h3 h4
 obtain ⟨p1, c1, rfl⟩ := h1.slice
 obtain ⟨p2, c2, rfl⟩ := h2.slice
 obtain ⟨p3, c3, rfl⟩ := h3.slice
 obtain ⟨p4, c4, rfl⟩ := h4.slice
 obtain ⟨ok1, ok2, ok3, ok4⟩ := hok
 have hlen : (bz_ modL l1).length + (bz_ strL l2).length + (bz_ thrL l3).length + (bz_ chkL l4).length ≤ 34359738368 := by
  unfold cx_ at hT
  simp only [List.length_append] at hT
  omega
 have hl1 : l1.length ≤ 9223372036854775807 := ok1.2
 have hl2 : l2.length ≤ 9223372036854775807 := ok2.2
 have hl3 : l3.length ≤ 9223372036854775807 := ok3.2
 have hl4 : l4.length ≤ 9223372036854775807 := ok4.2
 have HR := h4_ h1 h2 h3 h4
 have HO := h4_ ok1.1 ok2.1 ok3.1 ok4.1
 clear h1 h2 h3 h4 ok1 ok2 ok3 ok4 hT
 go_enter Tryz.func6, Tryz.ntmps6
 go_upto_region 2 with fail
 refine ac_ fun V hV => ?_
 have vB : Below w.heap.size w V := by rw [← hV]; go_grown
 have vd : V.heap[w.heap.size]? = some (.cells #[.slice p1 l1.length c1, .slice p2 l2.length c2, .slice p3 l3.length c3, .slice p4 l4.length c4] 27 (0, 0)) := by rw [← hV]; exact ae_ (heap_alloc_new _ _)
 have vb : V.heap[w.heap.size + 1]? = some (.cells [.pointer none, .slice none 0 0].toArray 77 (0, 0)) := by rw [← hV]; exact block_at (by simp)
 have hbl : a9_ 77 [] w.heap.size (w.heap.size + 1) [] V := a9_.fresh (by omega) vb
 have d0 := al_ vd 0 rfl
 have lV := lt_of_block vd
 have HV := h3_ vB vd hbl
 clear hV vB vd vb hbl
 go_wp2_with fail
 go_at_call 15
 refine (wnum l1.length hl1 _).mono ?_
 rintro e w1 ⟨hb1, rfl⟩
 have H1 := h1_ hb1
 clear hb1
 go_wp2_with fail
 go_at_call 14
 refine (c7_ 77 [] c6_ w.heap.size (w.heap.size + 1) [] (numL l1.length) _ (HV.out.2.2.below H1.out) (by have := b0_ (m := l1.length) (by omega); simp; omega) (by have := HV.out.1.size; have := H1.out.size; omega)).mono ?_
 rintro e w2 ⟨rfl, hbl2, hb2, hk2⟩
 have lw1 := H1.out.size
 have vd1 := at_b H1.out HV.out.2.1
 have vd2 := hk2.at_ vd1 (by omega) (by decide)
 have b2 := (HV.out.1.trans (H1.out.mono HV.out.1.size)).trans hb2
 have d0 := al_ vd2 0 rfl
 rw [List.nil_append] at hbl2
 have H2 := h3_ hbl2 b2 vd2
 clear hbl2 hb2 hk2 vd1 vd2 b2 HV H1
 go_wp2_with fail
 go_loopw [23] (fun i wr => ∃ k : Nat, i = .int .i64 k ∧ k ≤ l1.length ∧ f6_ 77 [] w.heap.size (w.heap.size + 1) (.pointer (some ⟨w.heap.size + 1, 0, none⟩)) (numL l1.length ++ (l1.take k).flatMap modL) wr ∧ Below w.heap.size w wr ∧ wr.heap[w.heap.size]? = some (.cells #[.slice p1 l1.length c1, .slice p2 l2.length c2, .slice p3 l3.length c3, .slice p4 l4.length c4] 27 (0, 0))) (fun i _ => l1.length - (RowKit.intOf i).toNat)
 case atStart => exact ⟨0, rfl, Nat.zero_le _, by simpa using H2.out.1, H2.out.2.1, H2.out.2.2⟩
 case round =>
  clear H2
  obtain ⟨k, rfl, hk, hbl, hb, hd⟩ := hrel
  have HB := h3_ hbl hb hd
  have lwr := lt_of_block hd
  clear hbl hb hd
  by_cases hlt : k < l1.length
  · obtain ⟨g, o, rfl, hg, cs, hcs, hrg⟩ := HR.out.1.at_ k hlt
    have hmk := HO.out.1 _ (List.getElem_mem hlt)
    obtain ⟨x, hx⟩ : ∃ x, x = l1[k] := ⟨_, rfl⟩
    rw [← hx] at hcs hmk
    obtain ⟨n1, n2, n3, n4, n5⟩ := x
    unfold modR at hcs
    subst hcs
    have hr2 : ∀ j u, [strB n1, strB n2, .int .i64 n3, .int .i64 n4, .bool n5][j]? = some u → wr.cell? ⟨g, o + k * 5 + j, none⟩ = some u := fun j u hj => (HB.out.2.1.cell (p := ⟨g, o + k * 5 + j, none⟩) hg).trans (hrg j u hj)
    have y0 : wr.cell? ⟨g, o + k * 5, none⟩ = some (strB n1) := hr2 0 _ rfl
    have y1 := hr2 1 _ rfl
    have y2 := hr2 2 _ rfl
    have y3 := hr2 3 _ rfl
    have y4 := hr2 4 _ rfl
    have hfl := fr_ modL l1 k hlt
    have hmod : modL (n1, n2, n3, n4, n5) = bm_ n1 ++ (bm_ n2 ++ (intL n3 ++ (intL n4 ++ kk_ n5))) := rfl
    have HX := h4_ hx hmk hfl hmod
    clear hx hmk hfl hr2 hrg hmod
    unfold strB at y0 y1
    go_upto_region 6 with ((with_reducible refine ad_ ?_); refine sr_ rfl rfl (h := ?_); (try simp only [World.setRow_alloc_new]))
    refine ac_ fun M0 hM => ?_
    have mB1 : Below wr.heap.size wr M0 := by rw [← hM]; go_grown
    have me : M0.heap[wr.heap.size]? = some (.cells [strB n1, strB n2, .int .i64 n3, .int .i64 n4, .bool n5].toArray 84 (0, 0)) := by rw [← hM]; exact heap_alloc_new _ _
    have HE := h2_ me mB1
    generalize hMe : wr.heap.size = M at *
    have HM := h1_ hMe
    clear hMe
    clear y0 y1 y2 y3 y4 hM me mB1
    obtain ⟨hx, hmk, hfl, hmod⟩ := HX.out
    have hln : (modL (n1, n2, n3, n4, n5)).length ≤ 34359738368 := by
     have : (bz_ modL l1).length = (numL l1.length).length + (l1.flatMap modL).length := by unfold bz_; rw [List.length_append]
     rw [← hx] at hfl
     omega
    rw [hmod] at hln
    simp only [List.length_append] at hln
    have ht1 : n1.length ≤ (bm_ n1).length := by unfold bm_; rw [List.length_append]; omega
    have ht2 : n2.length ≤ (bm_ n2).length := by unfold bm_; rw [List.length_append]; omega
    obtain ⟨gi, hgi⟩ : ∃ gi : Int, gi = if n5 then 1 else 0 := ⟨_, rfl⟩
    have hgr : I64 gi := by rw [hgi]; unfold I64; split <;> omega
    have hT3 : ([n3, n4, gi].flatMap intL) = intL n3 ++ (intL n4 ++ kk_ n5) := by
     rw [hgi]; simp [kk_]
    obtain ⟨T1, hT1⟩ : ∃ A, A = (⟨(bm_ n1).toArray⟩ : ByteArray) := ⟨_, rfl⟩
    obtain ⟨T2, hT2⟩ : ∃ A, A = (⟨(bm_ n2).toArray⟩ : ByteArray) := ⟨_, rfl⟩
    obtain ⟨T3, hT3'⟩ : ∃ A, A = (⟨([n3, n4, gi].flatMap intL).toArray⟩ : ByteArray) := ⟨_, rfl⟩
    have z1 : T1.size = (bm_ n1).length := by rw [hT1]; rfl
    have z2 : T2.size = (bm_ n2).length := by rw [hT2]; rfl
    have HI : Hid (∀ n ∈ [n3, n4, gi], I64 n) := h1_ (by
     intro n hn
     simp only [List.mem_cons, List.not_mem_nil, or_false] at hn
     rcases hn with rfl | rfl | rfl
     · exact hmk.2.2.1
     · exact hmk.2.2.2.1
     · exact hgr)
    have z3 : T3.size ≤ 30 := by
     rw [hT3']
     exact fd_ [n3, n4, gi] HI.out
    have hcat1 : ¬ 9223372036854775807 < T1.size + T2.size := by omega
    have hcat2 : ¬ 9223372036854775807 < T1.size + T2.size + T3.size := by omega
    have HT1 := h1_ hT1
    have HT2 := h1_ hT2
    have HT3 := h1_ hT3'
    have HG3 := h1_ hT3
    have HGI := h1_ hgi
    clear hx hmk hfl hmod hT1 hT2 hT3 hT3' z1 z2 z3 hgr hgi
    cases n5
    · skip
      obtain rfl : gi = 0 := HGI.out
      have e4 : M0.cell? ⟨M, 4, none⟩ = some (.bool false) := ab_ HE.out.1 4 rfl
      go_upto_region 9 with fail
      clear e4
      refine wq_ 15 [] (fun _ => False) [.pt M 0, .val (strB n1), .val (.string T1), .pt M 1, .val (strB n2), .val (.string T2), .val (.string (T1 ++ T2)), .pt M 2, .val (.int .i64 n3), .pt M 3, .val (.int .i64 n4), .val (.int .i64 0), .more (fun v x => ∃ g, v = .slice (some ⟨g, 0, none⟩) 3 3 ∧ x.heap[g]? = some (.cells [.int .i64 n3, .int .i64 n4, .int .i64 0].toArray 3 (0, 0))) (fun v x y ho h => by obtain ⟨g, h1, h2⟩ := h; exact ⟨g, h1, ho.kept h2 id⟩), .val (.string T3), .val (.string (T1 ++ T2 ++ T3))] (fun _ _ => True) (by kernel_rfl) (by kernel_rfl) (trivial) ?_ ?_
      · simp only [a4_, List.take]
        refine ⟨?_, ?_, ?_, ?_, ?_, ?_, ?_, ?_, ?_, ?_, ?_, ?_, ?_, ?_, ?_, trivial⟩
        all_goals intro k a wr ho hJ hk hr hf hd
        · have h5 : zp_ a 5 M 0 := (hf 5).trans rfl
          exact dp_ hJ (by simp [execOp, h5, go_sem])
        · have h29 : z_ a 29 _ := hd 0
          have hc := ab_ (ho.kept HE.out.1 id) 0 rfl
          exact dp_ hJ (by simp [execOp, h29, hc, go_sem])
        · have h30 : z_ a 30 _ := hd 1
          refine a0_ (f := 16) (args := #[strB n1]) (by simp [execOp, h30, strB, go_sem]) ?_
          exact (lr_ n1 (by omega) _).mono fun e w' ⟨hb, he⟩ => ⟨_, he, by rw [HT1.out]; rfl, Only.of_below hb, trivial⟩
        · have h5 : zp_ a 5 M 0 := (hf 5).trans rfl
          exact dp_ hJ (by simp [execOp, h5, go_sem])
        · have h32 : z_ a 32 _ := hd 3
          have hc := ab_ (ho.kept HE.out.1 id) 1 rfl
          exact dp_ hJ (by simp [execOp, h32, hc, go_sem])
        · have h33 : z_ a 33 _ := hd 4
          refine a0_ (f := 16) (args := #[strB n2]) (by simp [execOp, h33, strB, go_sem]) ?_
          exact (lr_ n2 (by omega) _).mono fun e w' ⟨hb, he⟩ => ⟨_, he, by rw [HT2.out]; rfl, Only.of_below hb, trivial⟩
        · have h31 : z_ a 31 _ := hd 2
          have h34 : z_ a 34 _ := hd 5
          exact dp_ hJ (by simp [execOp, h31, h34, go_sem, hcat1])
        · have h5 : zp_ a 5 M 0 := (hf 5).trans rfl
          exact dp_ hJ (by simp [execOp, h5, go_sem])
        · have h36 : z_ a 36 _ := hd 7
          have hc := ab_ (ho.kept HE.out.1 id) 2 rfl
          exact dp_ hJ (by simp [execOp, h36, hc, go_sem])
        · have h5 : zp_ a 5 M 0 := (hf 5).trans rfl
          exact dp_ hJ (by simp [execOp, h5, go_sem])
        · have h38 : z_ a 38 _ := hd 9
          have hc := ab_ (ho.kept HE.out.1 id) 3 rfl
          exact dp_ hJ (by simp [execOp, h38, hc, go_sem])
        · have h6 : z_ a 6 (.int .i64 0) := (hf 6).trans rfl
          exact dp_ hJ (by simp [execOp, h6, go_sem])
        · have h37 : z_ a 37 _ := hd 8
          have h39 : z_ a 39 _ := hd 10
          have h40 : z_ a 40 _ := hd 11
          exact bc_ (v := .slice (some ⟨wr.heap.size, 0, none⟩) 3 3) (w' := wr.alloc (.cells [.int .i64 n3, .int .i64 n4, .int .i64 0].toArray 3)) (by simp [execOp, h37, h39, h40, go_sem]) ⟨⟨_, rfl, heap_alloc_new _ _⟩, (Only.refl _ _).alloc _, trivial⟩
        · have h41 := hd 12
          obtain ⟨g, h8', hg⟩ : ∃ g, a.tmps[(41 : Nat)]?.getD undef = .slice (some ⟨g, 0, none⟩) 3 3 ∧ wr.heap[g]? = some (.cells [.int .i64 n3, .int .i64 n4, .int .i64 0].toArray 3 (0, 0)) := h41
          refine a0_ (f := 17) (args := #[.slice (some ⟨g, 0, none⟩) 3 3]) (by simp [execOp, h8', go_sem]) ?_
          have hd := nj_ [n3, n4, 0] g 0 3 (by simp) HI.out wr (fun q v hq => by rw [Nat.zero_add]; exact ab_ hg q hq) (lt_of_block hg)
          exact hd.mono fun e w' ⟨hb, he⟩ => ⟨_, he, by rw [HT3.out]; rfl, Only.of_below hb, trivial⟩
        · have h35 : z_ a 35 _ := hd 6
          have h42 : z_ a 42 _ := hd 13
          exact dp_ hJ (by simp [execOp, h35, h42, go_sem, hcat2])
      · intro fv w2 ho2 hj hs
        have q41 := hs 12 (by decide)
        rw [seqv hs [29, 30, 31, 32, 33, 34, 35, 36, 37, 38, 39, 40, 41, 42, 43] (by kernel_rfl)]
        simp only [actV, Act.put, List.drop, List.length, List.setIfInBounds_toArray, List.set_cons_zero, List.set_cons_succ]
        clear hs
        clear q41
        have hbw : Below M0.heap.size M0 w2 := ho2.below (Nat.le_refl _) (fun _ h => h.elim)
        have lM := hbw.size
        have lM0 := HE.out.2.size
        have lB := HB.out.2.1.size
        have lHM := HM.out
        go_wp2_with fail
        go_at_call 14
        have hcat : T1 ++ T2 ++ T3 = ⟨(modL (n1, n2, n3, n4, false)).toArray⟩ := by
         rw [HT1.out, HT2.out, HT3.out, ez_, ez_, HG3.out, List.append_assoc]
         rfl
        rw [hcat]
        have hln2 := HX.out.2.2.1
        refine (c7_ 77 [] c6_ w.heap.size (w.heap.size + 1) _ (modL (n1, n2, n3, n4, false)) _ (((HB.out.1.below (by rw [HM.out]; exact HE.out.2)).below hbw).is) (by
         have e1 : (bz_ modL l1).length = (numL l1.length).length + (l1.flatMap modL).length := by unfold bz_; rw [List.length_append]
         have e2 := HX.out.1
         rw [← e2] at hln2
         try simp only [List.length_append]
         omega) (by omega)).mono ?_
        rintro e w3 ⟨rfl, hbl3, hb3, hk3⟩
        have H3 := h5_ hbl3 hb3 hk3 hbw hcat
        clear hbl3 hb3 hk3 hbw hcat hln2 ho2 hj lHM
        go_wp2
        go_roundw
        case rel =>
         obtain ⟨hbl3, hb3, hk3, hbw, hcat⟩ := H3.out
         obtain ⟨hbl, hb, hd⟩ := HB.out
         have hE := HE.out.2
         have lM0 := HE.out.2.size
         have lHM := HM.out
         rw [← HM.out] at hE
         refine ⟨k + 1, rfl, by omega, ?_, ((hb.trans (hE.mono hb.size)).trans (hbw.mono (by omega))).trans hb3, ?_⟩
         · rw [fq_ modL l1 k hlt, ← HX.out.1, ← List.append_assoc]
           exact hbl3
         · exact hk3.at_ ((hbw.block _ (by omega)).trans ((hE.block _ (by omega)).trans hd)) (by omega) (by decide)
        case measure => simp [RowKit.intOf]; omega
    · skip
      obtain rfl : gi = 1 := HGI.out
      have e4 : M0.cell? ⟨M, 4, none⟩ = some (.bool true) := ab_ HE.out.1 4 rfl
      go_upto_region 9 with fail
      clear e4
      refine wq_ 15 [] (fun _ => False) [.pt M 0, .val (strB n1), .val (.string T1), .pt M 1, .val (strB n2), .val (.string T2), .val (.string (T1 ++ T2)), .pt M 2, .val (.int .i64 n3), .pt M 3, .val (.int .i64 n4), .val (.int .i64 1), .more (fun v x => ∃ g, v = .slice (some ⟨g, 0, none⟩) 3 3 ∧ x.heap[g]? = some (.cells [.int .i64 n3, .int .i64 n4, .int .i64 1].toArray 3 (0, 0))) (fun v x y ho h => by obtain ⟨g, h1, h2⟩ := h; exact ⟨g, h1, ho.kept h2 id⟩), .val (.string T3), .val (.string (T1 ++ T2 ++ T3))] (fun _ _ => True) (by kernel_rfl) (by kernel_rfl) (trivial) ?_ ?_
      · simp only [a4_, List.take]
        refine ⟨?_, ?_, ?_, ?_, ?_, ?_, ?_, ?_, ?_, ?_, ?_, ?_, ?_, ?_, ?_, trivial⟩
        all_goals intro k a wr ho hJ hk hr hf hd
        · have h5 : zp_ a 5 M 0 := (hf 5).trans rfl
          exact dp_ hJ (by simp [execOp, h5, go_sem])
        · have h29 : z_ a 29 _ := hd 0
          have hc := ab_ (ho.kept HE.out.1 id) 0 rfl
          exact dp_ hJ (by simp [execOp, h29, hc, go_sem])
        · have h30 : z_ a 30 _ := hd 1
          refine a0_ (f := 16) (args := #[strB n1]) (by simp [execOp, h30, strB, go_sem]) ?_
          exact (lr_ n1 (by omega) _).mono fun e w' ⟨hb, he⟩ => ⟨_, he, by rw [HT1.out]; rfl, Only.of_below hb, trivial⟩
        · have h5 : zp_ a 5 M 0 := (hf 5).trans rfl
          exact dp_ hJ (by simp [execOp, h5, go_sem])
        · have h32 : z_ a 32 _ := hd 3
          have hc := ab_ (ho.kept HE.out.1 id) 1 rfl
          exact dp_ hJ (by simp [execOp, h32, hc, go_sem])
        · have h33 : z_ a 33 _ := hd 4
          refine a0_ (f := 16) (args := #[strB n2]) (by simp [execOp, h33, strB, go_sem]) ?_
          exact (lr_ n2 (by omega) _).mono fun e w' ⟨hb, he⟩ => ⟨_, he, by rw [HT2.out]; rfl, Only.of_below hb, trivial⟩
        · have h31 : z_ a 31 _ := hd 2
          have h34 : z_ a 34 _ := hd 5
          exact dp_ hJ (by simp [execOp, h31, h34, go_sem, hcat1])
        · have h5 : zp_ a 5 M 0 := (hf 5).trans rfl
          exact dp_ hJ (by simp [execOp, h5, go_sem])
        · have h36 : z_ a 36 _ := hd 7
          have hc := ab_ (ho.kept HE.out.1 id) 2 rfl
          exact dp_ hJ (by simp [execOp, h36, hc, go_sem])
        · have h5 : zp_ a 5 M 0 := (hf 5).trans rfl
          exact dp_ hJ (by simp [execOp, h5, go_sem])
        · have h38 : z_ a 38 _ := hd 9
          have hc := ab_ (ho.kept HE.out.1 id) 3 rfl
          exact dp_ hJ (by simp [execOp, h38, hc, go_sem])
        · have h6 : z_ a 6 (.int .i64 1) := (hf 6).trans rfl
          exact dp_ hJ (by simp [execOp, h6, go_sem])
        · have h37 : z_ a 37 _ := hd 8
          have h39 : z_ a 39 _ := hd 10
          have h40 : z_ a 40 _ := hd 11
          exact bc_ (v := .slice (some ⟨wr.heap.size, 0, none⟩) 3 3) (w' := wr.alloc (.cells [.int .i64 n3, .int .i64 n4, .int .i64 1].toArray 3)) (by simp [execOp, h37, h39, h40, go_sem]) ⟨⟨_, rfl, heap_alloc_new _ _⟩, (Only.refl _ _).alloc _, trivial⟩
        · have h41 := hd 12
          obtain ⟨g, h8', hg⟩ : ∃ g, a.tmps[(41 : Nat)]?.getD undef = .slice (some ⟨g, 0, none⟩) 3 3 ∧ wr.heap[g]? = some (.cells [.int .i64 n3, .int .i64 n4, .int .i64 1].toArray 3 (0, 0)) := h41
          refine a0_ (f := 17) (args := #[.slice (some ⟨g, 0, none⟩) 3 3]) (by simp [execOp, h8', go_sem]) ?_
          have hd := nj_ [n3, n4, 1] g 0 3 (by simp) HI.out wr (fun q v hq => by rw [Nat.zero_add]; exact ab_ hg q hq) (lt_of_block hg)
          exact hd.mono fun e w' ⟨hb, he⟩ => ⟨_, he, by rw [HT3.out]; rfl, Only.of_below hb, trivial⟩
        · have h35 : z_ a 35 _ := hd 6
          have h42 : z_ a 42 _ := hd 13
          exact dp_ hJ (by simp [execOp, h35, h42, go_sem, hcat2])
      · intro fv w2 ho2 hj hs
        have q41 := hs 12 (by decide)
        rw [seqv hs [29, 30, 31, 32, 33, 34, 35, 36, 37, 38, 39, 40, 41, 42, 43] (by kernel_rfl)]
        simp only [actV, Act.put, List.drop, List.length, List.setIfInBounds_toArray, List.set_cons_zero, List.set_cons_succ]
        clear hs
        clear q41
        have hbw : Below M0.heap.size M0 w2 := ho2.below (Nat.le_refl _) (fun _ h => h.elim)
        have lM := hbw.size
        have lM0 := HE.out.2.size
        have lB := HB.out.2.1.size
        have lHM := HM.out
        go_wp2_with fail
        go_at_call 14
        have hcat : T1 ++ T2 ++ T3 = ⟨(modL (n1, n2, n3, n4, true)).toArray⟩ := by
         rw [HT1.out, HT2.out, HT3.out, ez_, ez_, HG3.out, List.append_assoc]
         rfl
        rw [hcat]
        have hln2 := HX.out.2.2.1
        refine (c7_ 77 [] c6_ w.heap.size (w.heap.size + 1) _ (modL (n1, n2, n3, n4, true)) _ (((HB.out.1.below (by rw [HM.out]; exact HE.out.2)).below hbw).is) (by
         have e1 : (bz_ modL l1).length = (numL l1.length).length + (l1.flatMap modL).length := by unfold bz_; rw [List.length_append]
         have e2 := HX.out.1
         rw [← e2] at hln2
         try simp only [List.length_append]
         omega) (by omega)).mono ?_
        rintro e w3 ⟨rfl, hbl3, hb3, hk3⟩
        have H3 := h5_ hbl3 hb3 hk3 hbw hcat
        clear hbl3 hb3 hk3 hbw hcat hln2 ho2 hj lHM
        go_wp2
        go_roundw
        case rel =>
         obtain ⟨hbl3, hb3, hk3, hbw, hcat⟩ := H3.out
         obtain ⟨hbl, hb, hd⟩ := HB.out
         have hE := HE.out.2
         have lM0 := HE.out.2.size
         have lHM := HM.out
         rw [← HM.out] at hE
         refine ⟨k + 1, rfl, by omega, ?_, ((hb.trans (hE.mono hb.size)).trans (hbw.mono (by omega))).trans hb3, ?_⟩
         · rw [fq_ modL l1 k hlt, ← HX.out.1, ← List.append_assoc]
           exact hbl3
         · exact hk3.at_ ((hbw.block _ (by omega)).trans ((hE.block _ (by omega)).trans hd)) (by omega) (by decide)
        case measure => simp [RowKit.intOf]; omega

  · obtain rfl : k = l1.length := by omega
    obtain ⟨hbl, hb, hd⟩ := HB.out
    rw [List.take_length] at hbl
    have hfull : numL l1.length ++ l1.flatMap modL = bz_ modL l1 := by unfold bz_; simp [List.append_assoc]
    rw [hfull] at hbl
    have HB := h3_ hbl hb hd
    have d2 := al_ hd 1 rfl
    clear hbl hb hd hfull
    go_wp2_with fail
    go_at_call 15
    refine (wnum l2.length hl2 _).mono ?_
    rintro e w1 ⟨hb1, rfl⟩
    have H1 := h1_ hb1
    clear hb1 d2
    go_wp2_with fail
    go_at_call 14
    have lwb := HB.out.2.1.size
    have lw1 := H1.out.size
    refine (c7_ 77 [] c6_ w.heap.size (w.heap.size + 1) _ (numL l2.length) _ ((HB.out.1.below H1.out).is) (by
     have := b0_ (m := l2.length) (by omega)
     try simp only [List.length_append]
     omega) (by omega)).mono ?_
    rintro e w2 ⟨rfl, hbl2, hb2, hk2⟩
    have vd1 := at_b H1.out HB.out.2.2
    have vd2 := hk2.at_ vd1 (by omega) (by decide)
    have b2 := (HB.out.2.1.trans (H1.out.mono HB.out.2.1.size)).trans hb2
    have d2 := al_ vd2 1 rfl
    have H2 := h3_ hbl2 b2 vd2
    clear hbl2 hb2 hk2 vd1 vd2 b2 HB H1 lwr hk hlt
    go_wp2_with fail
    go_loopw [54] (fun i wr => ∃ k : Nat, i = .int .i64 k ∧ k ≤ l2.length ∧ f6_ 77 [] w.heap.size (w.heap.size + 1) (.pointer (some ⟨w.heap.size + 1, 0, none⟩)) (bz_ modL l1 ++ numL l2.length ++ (l2.take k).flatMap strL) wr ∧ Below w.heap.size w wr ∧ wr.heap[w.heap.size]? = some (.cells #[.slice p1 l1.length c1, .slice p2 l2.length c2, .slice p3 l3.length c3, .slice p4 l4.length c4] 27 (0, 0))) (fun i _ => l2.length - (RowKit.intOf i).toNat)
    case atStart => exact ⟨0, rfl, Nat.zero_le _, by simpa using H2.out.1, H2.out.2.1, H2.out.2.2⟩
    case round =>
     clear H2
     obtain ⟨k, rfl, hk, hbl, hb, hd⟩ := hrel
     have HB := h3_ hbl hb hd
     have lwr := lt_of_block hd
     clear hbl hb hd
     by_cases hlt : k < l2.length
     · obtain ⟨g, o, rfl, hg, cs, hcs, hrg⟩ := HR.out.2.1.at_ k hlt
       have hmk := HO.out.2.1 _ (List.getElem_mem hlt)
       obtain ⟨x, hx⟩ : ∃ x, x = l2[k] := ⟨_, rfl⟩
       rw [← hx] at hcs hmk
       obtain ⟨n1, n2, n3, n4, n5, n6, n7⟩ := x
       unfold strR at hcs
       subst hcs
       have hr2 : ∀ j u, [.int .i64 n1, strB n2, strB n3, strB n4, .int .i64 n5, .int .i64 n6, .int .i64 n7][j]? = some u → wr.cell? ⟨g, o + k * 7 + j, none⟩ = some u := fun j u hj => (HB.out.2.1.cell (p := ⟨g, o + k * 7 + j, none⟩) hg).trans (hrg j u hj)
       have y0 : wr.cell? ⟨g, o + k * 7, none⟩ = some (.int .i64 n1) := hr2 0 _ rfl
       have y1 := hr2 1 _ rfl
       have y2 := hr2 2 _ rfl
       have y3 := hr2 3 _ rfl
       have y4 := hr2 4 _ rfl
       have y5 := hr2 5 _ rfl
       have y6 := hr2 6 _ rfl
       have hfl := fr_ strL l2 k hlt
       have hmod : strL (n1, n2, n3, n4, n5, n6, n7) = intL n1 ++ (bm_ n2 ++ (bm_ n3 ++ (bm_ n4 ++ (intL n5 ++ (intL n6 ++ intL n7))))) := rfl
       have HX := h4_ hx hmk hfl hmod
       clear hx hmk hfl hr2 hrg hmod
       unfold strB at y1 y2 y3
       go_upto_region 15 with ((with_reducible refine ad_ ?_); refine sr_ rfl rfl (h := ?_); (try simp only [World.setRow_alloc_new]))
       refine ac_ fun M0 hM => ?_
       have mB1 : Below wr.heap.size wr M0 := by rw [← hM]; go_grown
       have me : M0.heap[wr.heap.size]? = some (.cells [.int .i64 n1, strB n2, strB n3, strB n4, .int .i64 n5, .int .i64 n6, .int .i64 n7].toArray 88 (0, 0)) := by rw [← hM]; exact heap_alloc_new _ _
       have HE := h2_ me mB1
       generalize hMe : wr.heap.size = M at *
       have HM := h1_ hMe
       clear hMe
       clear y0 y1 y2 y3 y4 y5 y6 hM me mB1
       obtain ⟨hx, hmk, hfl, hmod⟩ := HX.out
       have hln : (strL (n1, n2, n3, n4, n5, n6, n7)).length ≤ 34359738368 := by
        have : (bz_ strL l2).length = (numL l2.length).length + (l2.flatMap strL).length := by unfold bz_; rw [List.length_append]
        rw [← hx] at hfl
        omega
       rw [hmod] at hln
       simp only [List.length_append] at hln
       have ht2 : n2.length ≤ (bm_ n2).length := by unfold bm_; rw [List.length_append]; omega
       have ht3 : n3.length ≤ (bm_ n3).length := by unfold bm_; rw [List.length_append]; omega
       have ht4 : n4.length ≤ (bm_ n4).length := by unfold bm_; rw [List.length_append]; omega
       obtain ⟨T1, hT1⟩ : ∃ A, A = (⟨([n1].flatMap intL).toArray⟩ : ByteArray) := ⟨_, rfl⟩
       have HIT1 : Hid (∀ n ∈ [n1], I64 n) := h1_ (by
        intro n hn
        simp only [List.mem_cons, List.not_mem_nil, or_false] at hn
        rcases hn with rfl
        · exact hmk.1)
       have zT1 : T1.size ≤ 10 := by rw [hT1]; exact fd_ [n1] HIT1.out
       have HT1 := h1_ hT1
       obtain ⟨T2, hT2⟩ : ∃ A, A = (⟨(bm_ n2).toArray⟩ : ByteArray) := ⟨_, rfl⟩
       have zT2 : T2.size = (bm_ n2).length := by rw [hT2]; rfl
       have HT2 := h1_ hT2
       obtain ⟨T3, hT3⟩ : ∃ A, A = (⟨(bm_ n3).toArray⟩ : ByteArray) := ⟨_, rfl⟩
       have zT3 : T3.size = (bm_ n3).length := by rw [hT3]; rfl
       have HT3 := h1_ hT3
       obtain ⟨T4, hT4⟩ : ∃ A, A = (⟨(bm_ n4).toArray⟩ : ByteArray) := ⟨_, rfl⟩
       have zT4 : T4.size = (bm_ n4).length := by rw [hT4]; rfl
       have HT4 := h1_ hT4
       obtain ⟨T5, hT5⟩ : ∃ A, A = (⟨([n5, n6, n7].flatMap intL).toArray⟩ : ByteArray) := ⟨_, rfl⟩
       have HIT5 : Hid (∀ n ∈ [n5, n6, n7], I64 n) := h1_ (by
        intro n hn
        simp only [List.mem_cons, List.not_mem_nil, or_false] at hn
        rcases hn with rfl | rfl | rfl
        · exact hmk.2.2.2.2.1
        · exact hmk.2.2.2.2.2.1
        · exact hmk.2.2.2.2.2.2)
       have zT5 : T5.size ≤ 30 := by rw [hT5]; exact fd_ [n5, n6, n7] HIT5.out
       have HT5 := h1_ hT5
       have hcat1 : ¬ 9223372036854775807 < T1.size + T2.size := by omega
       have hcat2 : ¬ 9223372036854775807 < T1.size + T2.size + T3.size := by omega
       have hcat3 : ¬ 9223372036854775807 < T1.size + T2.size + T3.size + T4.size := by omega
       have hcat4 : ¬ 9223372036854775807 < T1.size + T2.size + T3.size + T4.size + T5.size := by omega
       clear hx hmk hfl hmod hT1 zT1 hT2 zT2 hT3 zT3 hT4 zT4 hT5 zT5
       refine wq_ 27 [] (fun _ => False) [.pt M 0, .val (.int .i64 n1), .more (fun v x => ∃ g, v = .slice (some ⟨g, 0, none⟩) 1 1 ∧ x.heap[g]? = some (.cells [.int .i64 n1].toArray 3 (0, 0))) (fun v x y ho h => by obtain ⟨g, h1, h2⟩ := h; exact ⟨g, h1, ho.kept h2 id⟩), .val (.string T1), .pt M 1, .val (strB n2), .val (.string T2), .val (.string (T1 ++ T2)), .pt M 2, .val (strB n3), .val (.string T3), .val (.string (T1 ++ T2 ++ T3)), .pt M 3, .val (strB n4), .val (.string T4), .val (.string (T1 ++ T2 ++ T3 ++ T4)), .pt M 4, .val (.int .i64 n5), .pt M 5, .pt M 5, .val (.int .i64 n6), .pt M 5, .pt M 6, .val (.int .i64 n7), .more (fun v x => ∃ g, v = .slice (some ⟨g, 0, none⟩) 3 3 ∧ x.heap[g]? = some (.cells [.int .i64 n5, .int .i64 n6, .int .i64 n7].toArray 3 (0, 0))) (fun v x y ho h => by obtain ⟨g, h1, h2⟩ := h; exact ⟨g, h1, ho.kept h2 id⟩), .val (.string T5), .val (.string (T1 ++ T2 ++ T3 ++ T4 ++ T5))] (fun _ _ => True) (by kernel_rfl) (by kernel_rfl) (trivial) ?_ ?_
       · simp only [a4_, List.take]
         refine ⟨?_, ?_, ?_, ?_, ?_, ?_, ?_, ?_, ?_, ?_, ?_, ?_, ?_, ?_, ?_, ?_, ?_, ?_, ?_, ?_, ?_, ?_, ?_, ?_, ?_, ?_, ?_, trivial⟩
         all_goals intro k a wr ho hJ hk hr hf hd
         · have h8 : zp_ a 8 M 0 := (hf 8).trans rfl
           exact dp_ hJ (by simp [execOp, h8, go_sem])
         · have h58 : z_ a 58 _ := hd 0
           have hc := ab_ (ho.kept HE.out.1 id) 0 rfl
           exact dp_ hJ (by simp [execOp, h58, hc, go_sem])
         · have h59 : z_ a 59 _ := hd 1
           exact bc_ (v := .slice (some ⟨wr.heap.size, 0, none⟩) 1 1) (w' := wr.alloc (.cells [.int .i64 n1].toArray 3)) (by simp [execOp, h59, go_sem]) ⟨⟨_, rfl, heap_alloc_new _ _⟩, (Only.refl _ _).alloc _, trivial⟩
         · have h60 := hd 2
           obtain ⟨g, h8', hg⟩ : ∃ g, a.tmps[(60 : Nat)]?.getD undef = .slice (some ⟨g, 0, none⟩) 1 1 ∧ wr.heap[g]? = some (.cells [.int .i64 n1].toArray 3 (0, 0)) := h60
           refine a0_ (f := 17) (args := #[.slice (some ⟨g, 0, none⟩) 1 1]) (by simp [execOp, h8', go_sem]) ?_
           have hd := nj_ [n1] g 0 1 (by simp) HIT1.out wr (fun q v hq => by rw [Nat.zero_add]; exact ab_ hg q hq) (lt_of_block hg)
           exact hd.mono fun e w' ⟨hb, he⟩ => ⟨_, he, by rw [HT1.out]; rfl, Only.of_below hb, trivial⟩
         · have h8 : zp_ a 8 M 0 := (hf 8).trans rfl
           exact dp_ hJ (by simp [execOp, h8, go_sem])
         · have h62 : z_ a 62 _ := hd 4
           have hc := ab_ (ho.kept HE.out.1 id) 1 rfl
           exact dp_ hJ (by simp [execOp, h62, hc, go_sem])
         · have h63 : z_ a 63 _ := hd 5
           refine a0_ (f := 16) (args := #[strB n2]) (by simp [execOp, h63, strB, go_sem]) ?_
           exact (lr_ n2 (by omega) _).mono fun e w' ⟨hb, he⟩ => ⟨_, he, by rw [HT2.out]; rfl, Only.of_below hb, trivial⟩
         · have h61 : z_ a 61 _ := hd 3
           have h64 : z_ a 64 _ := hd 6
           exact dp_ hJ (by simp [execOp, h61, h64, go_sem, hcat1])
         · have h8 : zp_ a 8 M 0 := (hf 8).trans rfl
           exact dp_ hJ (by simp [execOp, h8, go_sem])
         · have h66 : z_ a 66 _ := hd 8
           have hc := ab_ (ho.kept HE.out.1 id) 2 rfl
           exact dp_ hJ (by simp [execOp, h66, hc, go_sem])
         · have h67 : z_ a 67 _ := hd 9
           refine a0_ (f := 16) (args := #[strB n3]) (by simp [execOp, h67, strB, go_sem]) ?_
           exact (lr_ n3 (by omega) _).mono fun e w' ⟨hb, he⟩ => ⟨_, he, by rw [HT3.out]; rfl, Only.of_below hb, trivial⟩
         · have h65 : z_ a 65 _ := hd 7
           have h68 : z_ a 68 _ := hd 10
           exact dp_ hJ (by simp [execOp, h65, h68, go_sem, hcat2])
         · have h8 : zp_ a 8 M 0 := (hf 8).trans rfl
           exact dp_ hJ (by simp [execOp, h8, go_sem])
         · have h70 : z_ a 70 _ := hd 12
           have hc := ab_ (ho.kept HE.out.1 id) 3 rfl
           exact dp_ hJ (by simp [execOp, h70, hc, go_sem])
         · have h71 : z_ a 71 _ := hd 13
           refine a0_ (f := 16) (args := #[strB n4]) (by simp [execOp, h71, strB, go_sem]) ?_
           exact (lr_ n4 (by omega) _).mono fun e w' ⟨hb, he⟩ => ⟨_, he, by rw [HT4.out]; rfl, Only.of_below hb, trivial⟩
         · have h69 : z_ a 69 _ := hd 11
           have h72 : z_ a 72 _ := hd 14
           exact dp_ hJ (by simp [execOp, h69, h72, go_sem, hcat3])
         · have h8 : zp_ a 8 M 0 := (hf 8).trans rfl
           exact dp_ hJ (by simp [execOp, h8, go_sem])
         · have h74 : z_ a 74 _ := hd 16
           have hc := ab_ (ho.kept HE.out.1 id) 4 rfl
           exact dp_ hJ (by simp [execOp, h74, hc, go_sem])
         · have h8 : zp_ a 8 M 0 := (hf 8).trans rfl
           exact dp_ hJ (by simp [execOp, h8, go_sem])
         · have h76 : z_ a 76 _ := hd 18
           exact dp_ hJ (by simp [execOp, h76, go_sem])
         · have h77 : z_ a 77 _ := hd 19
           have hc := ab_ (ho.kept HE.out.1 id) 5 rfl
           exact dp_ hJ (by simp [execOp, h77, hc, go_sem])
         · have h8 : zp_ a 8 M 0 := (hf 8).trans rfl
           exact dp_ hJ (by simp [execOp, h8, go_sem])
         · have h79 : z_ a 79 _ := hd 21
           exact dp_ hJ (by simp [execOp, h79, go_sem])
         · have h80 : z_ a 80 _ := hd 22
           have hc := ab_ (ho.kept HE.out.1 id) 6 rfl
           exact dp_ hJ (by simp [execOp, h80, hc, go_sem])
         · have h75 : z_ a 75 _ := hd 17
           have h78 : z_ a 78 _ := hd 20
           have h81 : z_ a 81 _ := hd 23
           exact bc_ (v := .slice (some ⟨wr.heap.size, 0, none⟩) 3 3) (w' := wr.alloc (.cells [.int .i64 n5, .int .i64 n6, .int .i64 n7].toArray 3)) (by simp [execOp, h75, h78, h81, go_sem]) ⟨⟨_, rfl, heap_alloc_new _ _⟩, (Only.refl _ _).alloc _, trivial⟩
         · have h82 := hd 24
           obtain ⟨g, h8', hg⟩ : ∃ g, a.tmps[(82 : Nat)]?.getD undef = .slice (some ⟨g, 0, none⟩) 3 3 ∧ wr.heap[g]? = some (.cells [.int .i64 n5, .int .i64 n6, .int .i64 n7].toArray 3 (0, 0)) := h82
           refine a0_ (f := 17) (args := #[.slice (some ⟨g, 0, none⟩) 3 3]) (by simp [execOp, h8', go_sem]) ?_
           have hd := nj_ [n5, n6, n7] g 0 3 (by simp) HIT5.out wr (fun q v hq => by rw [Nat.zero_add]; exact ab_ hg q hq) (lt_of_block hg)
           exact hd.mono fun e w' ⟨hb, he⟩ => ⟨_, he, by rw [HT5.out]; rfl, Only.of_below hb, trivial⟩
         · have h73 : z_ a 73 _ := hd 15
           have h83 : z_ a 83 _ := hd 25
           exact dp_ hJ (by simp [execOp, h73, h83, go_sem, hcat4])
       · intro fv w2 ho2 hj hs
         have q60 := hs 2 (by decide)
         have q82 := hs 24 (by decide)
         rw [seqv hs [58, 59, 60, 61, 62, 63, 64, 65, 66, 67, 68, 69, 70, 71, 72, 73, 74, 75, 76, 77, 78, 79, 80, 81, 82, 83, 84] (by kernel_rfl)]
         simp only [actV, Act.put, List.drop, List.length, List.setIfInBounds_toArray, List.set_cons_zero, List.set_cons_succ]
         clear hs
         clear q60 q82
         have hbw : Below M0.heap.size M0 w2 := ho2.below (Nat.le_refl _) (fun _ h => h.elim)
         have lM := hbw.size
         have lM0 := HE.out.2.size
         have lB := HB.out.2.1.size
         have lHM := HM.out
         go_wp2_with fail
         go_at_call 14
         have hcat : T1 ++ T2 ++ T3 ++ T4 ++ T5 = ⟨(strL (n1, n2, n3, n4, n5, n6, n7)).toArray⟩ := by
          rw [HT1.out, HT2.out, HT3.out, HT4.out, HT5.out, ez_, ez_, ez_, ez_]
          simp [strL]
         rw [hcat]
         have hln2 := HX.out.2.2.1
         refine (c7_ 77 [] c6_ w.heap.size (w.heap.size + 1) _ (strL (n1, n2, n3, n4, n5, n6, n7)) _ (((HB.out.1.below (by rw [HM.out]; exact HE.out.2)).below hbw).is) (by
          have e1 : (bz_ strL l2).length = (numL l2.length).length + (l2.flatMap strL).length := by unfold bz_; rw [List.length_append]
          have e2 := HX.out.1
          rw [← e2] at hln2
          try simp only [List.length_append]
          omega) (by omega)).mono ?_
         rintro e w3 ⟨rfl, hbl3, hb3, hk3⟩
         have H3 := h5_ hbl3 hb3 hk3 hbw hcat
         clear hbl3 hb3 hk3 hbw hcat hln2 ho2 hj lHM
         go_wp2
         go_roundw
         case rel =>
          obtain ⟨hbl3, hb3, hk3, hbw, hcat⟩ := H3.out
          obtain ⟨hbl, hb, hd⟩ := HB.out
          have hE := HE.out.2
          have lM0 := HE.out.2.size
          have lHM := HM.out
          rw [← HM.out] at hE
          refine ⟨k + 1, rfl, by omega, ?_, ((hb.trans (hE.mono hb.size)).trans (hbw.mono (by omega))).trans hb3, ?_⟩
          · rw [fq_ strL l2 k hlt, ← HX.out.1, ← List.append_assoc]
            exact hbl3
          · exact hk3.at_ ((hbw.block _ (by omega)).trans ((hE.block _ (by omega)).trans hd)) (by omega) (by decide)
         case measure => simp [RowKit.intOf]; omega

     · obtain rfl : k = l2.length := by omega
       obtain ⟨hbl, hb, hd⟩ := HB.out
       rw [List.take_length] at hbl
       have hfull : bz_ modL l1 ++ numL l2.length ++ l2.flatMap strL = bz_ modL l1 ++ bz_ strL l2 := by unfold bz_; simp [List.append_assoc]
       rw [hfull] at hbl
       have HB := h3_ hbl hb hd
       have d3 := al_ hd 2 rfl
       clear hbl hb hd hfull
       go_wp2_with fail
       go_at_call 15
       refine (wnum l3.length hl3 _).mono ?_
       rintro e w1 ⟨hb1, rfl⟩
       have H1 := h1_ hb1
       clear hb1 d3
       go_wp2_with fail
       go_at_call 14
       have lwb := HB.out.2.1.size
       have lw1 := H1.out.size
       refine (c7_ 77 [] c6_ w.heap.size (w.heap.size + 1) _ (numL l3.length) _ ((HB.out.1.below H1.out).is) (by
        have := b0_ (m := l3.length) (by omega)
        try simp only [List.length_append]
        omega) (by omega)).mono ?_
       rintro e w2 ⟨rfl, hbl2, hb2, hk2⟩
       have vd1 := at_b H1.out HB.out.2.2
       have vd2 := hk2.at_ vd1 (by omega) (by decide)
       have b2 := (HB.out.2.1.trans (H1.out.mono HB.out.2.1.size)).trans hb2
       have d3 := al_ vd2 2 rfl
       have H2 := h3_ hbl2 b2 vd2
       clear hbl2 hb2 hk2 vd1 vd2 b2 HB H1 lwr hk hlt
       go_wp2_with fail
       go_loopw [95] (fun i wr => ∃ k : Nat, i = .int .i64 k ∧ k ≤ l3.length ∧ f6_ 77 [] w.heap.size (w.heap.size + 1) (.pointer (some ⟨w.heap.size + 1, 0, none⟩)) (bz_ modL l1 ++ bz_ strL l2 ++ numL l3.length ++ (l3.take k).flatMap thrL) wr ∧ Below w.heap.size w wr ∧ wr.heap[w.heap.size]? = some (.cells #[.slice p1 l1.length c1, .slice p2 l2.length c2, .slice p3 l3.length c3, .slice p4 l4.length c4] 27 (0, 0))) (fun i _ => l3.length - (RowKit.intOf i).toNat)
       case atStart => exact ⟨0, rfl, Nat.zero_le _, by simpa using H2.out.1, H2.out.2.1, H2.out.2.2⟩
       case round =>
        clear H2
        obtain ⟨k, rfl, hk, hbl, hb, hd⟩ := hrel
        have HB := h3_ hbl hb hd
        have lwr := lt_of_block hd
        clear hbl hb hd
        by_cases hlt : k < l3.length
        · obtain ⟨g, o, rfl, hg, cs, hcs, hrg⟩ := HR.out.2.2.1.at_ k hlt
          have hmk := HO.out.2.2.1 _ (List.getElem_mem hlt)
          obtain ⟨x, hx⟩ : ∃ x, x = l3[k] := ⟨_, rfl⟩
          rw [← hx] at hcs hmk
          obtain ⟨cp, n1, n2, n3, n4, sv⟩ := x
          obtain ⟨vv, hcs, h17, hrow⟩ := hcs
          dsimp only at hcs h17 hrow
          obtain ⟨pv, cv, rfl⟩ := hrow.slice
          have hrw : wr.rangeAt g (o + k * 22) cs := fun j u hj => (HB.out.2.1.cell (p := ⟨g, o + k * 22 + j, none⟩) hg).trans (hrg j u hj)
          have hpre : ∀ j u, (cp.map (Value.int .i64))[j]? = some u → cs[j]? = some u := fun j u hj => by
           rw [hcs, List.getElem?_append_left (List.getElem?_eq_some_iff.1 hj).1]; exact hj
          have hat : ∀ j, cs[17 + j]? = [Value.int .i64 n1, .int .i64 n2, .int .i64 n3, .int .i64 n4, .slice pv sv.length cv][j]? := fun j => by
           rw [hcs, List.getElem?_append_right (by rw [List.length_map, h17]; omega), List.length_map, h17, Nat.add_sub_cancel_left]
          have hcl : cs.length = 22 := by rw [hcs]; simp [h17]
          have hone : ∀ u ∈ cs, u.oneCell' = true := by
           intro u hu
           rw [hcs] at hu
           rcases List.mem_append.1 hu with h | h
           · obtain ⟨y, _, rfl⟩ := List.mem_map.1 h; rfl
           · simp only [List.mem_cons, List.not_mem_nil, or_false] at h
             rcases h with rfl | rfl | rfl | rfl | rfl <;> rfl
          have hsz : (Tryz.prog.info? 73).map (·.size) = some cs.length := by rw [hcl]; kernel_rfl
          have hsz2 : (Tryz.prog.info? 73).map (·.size) = some cs.toArray.size := by rw [List.size_toArray]; exact hsz
          have hall : cs.toArray.all (·.oneCell') = true := by rw [Array.all_eq_true_iff_forall_mem]; intro u hu; exact hone u (by simpa using hu)
          have hcl2 : (#[.int .i64 0, .int .i64 0, .int .i64 0, .int .i64 0, .int .i64 0, .int .i64 0, .int .i64 0, .int .i64 0, .int .i64 0, .int .i64 0, .int .i64 0, .int .i64 0, .int .i64 0, .int .i64 0, .int .i64 0, .int .i64 0, .int .i64 0, .int .i64 0, .int .i64 0, .int .i64 0, .int .i64 0, .slice none 0 0] : Array Value).size = cs.toArray.size := by show (22 : Nat) = cs.toArray.size; rw [List.size_toArray, hcl]
          have hfl := fr_ thrL l3 k hlt
          have hmod : thrL (cp, n1, n2, n3, n4, sv) = Wire.cpuL cp ++ (intL n1 ++ (intL n2 ++ (intL n3 ++ (intL n4 ++ (numL sv.length ++ sv.flatMap Wire.cpuL))))) := rfl
          have HX := h4_ hx hmk hfl hmod
          have HS := h5_ hrw hsz hsz2 hall hcl2
          have HC := h5_ hpre hat h17 hcl hrow
          clear hx hmk hfl hrg hmod hrw hsz hsz2 hall hcl2 hpre hat h17 hcl hrow hcs hone
          go_upto_region 21 with (first
           | (refine wpList_load_mid rfl 73 (.tmp 97) rfl g (o + k * 22) rfl cs _ HS.out.1 Tryz.underlying73 rfl HS.out.2.1 ?_)
           | ((with_reducible refine ad_ ?_); refine wpList_store_row rfl _ _ _ rfl wr.heap.size _ rfl rfl _ _ (heap_alloc_new wr (.cells #[.int .i64 0, .int .i64 0, .int .i64 0, .int .i64 0, .int .i64 0, .int .i64 0, .int .i64 0, .int .i64 0, .int .i64 0, .int .i64 0, .int .i64 0, .int .i64 0, .int .i64 0, .int .i64 0, .int .i64 0, .int .i64 0, .int .i64 0, .int .i64 0, .int .i64 0, .int .i64 0, .int .i64 0, .slice none 0 0] 73)) HS.out.2.2.1 HS.out.2.2.2.2 HS.out.2.2.2.1 ?_; (try simp only [World.setRow_alloc_new])))
          refine ac_ fun M0 hM => ?_
          have mB1 : Below wr.heap.size wr M0 := by rw [← hM]; go_grown
          have me : M0.heap[wr.heap.size]? = some (.cells cs.toArray 73 (0, 0)) := by rw [← hM]; exact heap_alloc_new _ _
          have HE := h2_ me mB1
          generalize hMe : wr.heap.size = M at *
          have HM := h1_ hMe
          clear hMe
          clear hM me mB1
          obtain ⟨hx, hmk, hfl, hmod⟩ := HX.out
          have hln : (thrL (cp, n1, n2, n3, n4, sv)).length ≤ 34359738368 := by
           have : (bz_ thrL l3).length = (numL l3.length).length + (l3.flatMap thrL).length := by unfold bz_; rw [List.length_append]
           rw [← hx] at hfl
           omega
          rw [hmod] at hln
          simp only [List.length_append] at hln
          obtain ⟨hmc, hm1, hm2, hm3, hm4, hmsv⟩ := hmk
          dsimp only at hmc hm1 hm2 hm3 hm4 hmsv
          obtain ⟨T1, hT1⟩ : ∃ A, A = (⟨(Wire.cpuL cp).toArray⟩ : ByteArray) := ⟨_, rfl⟩
          have zT1 : T1.size = (Wire.cpuL cp).length := by rw [hT1]; rfl
          obtain ⟨T2, hT2⟩ : ∃ A, A = (⟨([n1, n2, n3, n4].flatMap intL).toArray⟩ : ByteArray) := ⟨_, rfl⟩
          have HIT2 : Hid (∀ n ∈ [n1, n2, n3, n4], I64 n) := h1_ (by
           intro n hn
           simp only [List.mem_cons, List.not_mem_nil, or_false] at hn
           rcases hn with rfl | rfl | rfl | rfl
           · exact hm1
           · exact hm2
           · exact hm3
           · exact hm4)
          have zT2 : T2.size ≤ 40 := by rw [hT2]; exact fd_ [n1, n2, n3, n4] HIT2.out
          obtain ⟨T3, hT3⟩ : ∃ A, A = (⟨(numL sv.length).toArray⟩ : ByteArray) := ⟨_, rfl⟩
          have zT3 : T3.size = (numL sv.length).length := by rw [hT3]; rfl
          have hcat1 : ¬ 9223372036854775807 < T1.size + T2.size := by omega
          have hcat2 : ¬ 9223372036854775807 < T1.size + T2.size + T3.size := by omega
          have HT1 := h1_ hT1
          have HT2 := h1_ hT2
          have HT3 := h1_ hT3
          have HMC := h2_ hmc hmsv
          clear hx hfl hmod hT1 hT2 hT3 zT1 zT2 zT3 hmc hm1 hm2 hm3 hm4 hmsv
          refine wq_ 21 [] (fun _ => False) [.pt M 0, .val (.agg (cp.map (Value.int .i64)).toArray), .val (.string T1), .pt M 17, .val (.int .i64 n1), .pt M 18, .val (.int .i64 n2), .pt M 19, .pt M 19, .val (.int .i64 n3), .pt M 19, .pt M 20, .val (.int .i64 n4), .more (fun v x => ∃ g, v = .slice (some ⟨g, 0, none⟩) 4 4 ∧ x.heap[g]? = some (.cells [.int .i64 n1, .int .i64 n2, .int .i64 n3, .int .i64 n4].toArray 3 (0, 0))) (fun v x y ho h => by obtain ⟨g, h1, h2⟩ := h; exact ⟨g, h1, ho.kept h2 id⟩), .val (.string T2), .val (.string (T1 ++ T2)), .pt M 21, .val (.slice pv sv.length cv), .val (.int .i64 sv.length), .val (.string T3), .val (.string (T1 ++ T2 ++ T3))] (fun _ _ => True) (by kernel_rfl) (by kernel_rfl) (trivial) ?_ ?_
          · simp only [a4_, List.take]
            refine ⟨?_, ?_, ?_, ?_, ?_, ?_, ?_, ?_, ?_, ?_, ?_, ?_, ?_, ?_, ?_, ?_, ?_, ?_, ?_, ?_, ?_, trivial⟩
            all_goals intro k a wr ho hJ hk hr hf hd
            · have h10 : zp_ a 10 M 0 := (hf 10).trans rfl
              exact dp_ hJ (by simp [execOp, h10, go_sem])
            · have h99 : z_ a 99 _ := hd 0
              exact ei_ 99 70 rfl M 0 h99 (cp.map (Value.int .i64)) _ (fun j u hj => by rw [Nat.zero_add]; exact ab_ (ho.kept HE.out.1 id) j (HC.out.1 j u hj)) Tryz.underlying70 rfl (by rw [List.length_map, HC.out.2.2.1]; kernel_rfl) ⟨rfl, Only.refl _ _, hJ⟩
            · have h100 : z_ a 100 _ := hd 1
              refine a0_ (f := 18) (args := #[.agg (cp.map (Value.int .i64)).toArray]) (by simp [execOp, h100, go_sem]) ?_
              exact (dcpub cp HC.out.2.2.1 HMC.out.1.1 _).mono fun e w' ⟨hb, he⟩ => ⟨_, he, by rw [HT1.out]; rfl, Only.of_below hb, trivial⟩
            · have h10 : zp_ a 10 M 0 := (hf 10).trans rfl
              exact dp_ hJ (by simp [execOp, h10, go_sem])
            · have h102 : z_ a 102 _ := hd 3
              have hc := ab_ (ho.kept HE.out.1 id) 17 (HC.out.2.1 0)
              exact dp_ hJ (by simp [execOp, h102, hc, go_sem])
            · have h10 : zp_ a 10 M 0 := (hf 10).trans rfl
              exact dp_ hJ (by simp [execOp, h10, go_sem])
            · have h104 : z_ a 104 _ := hd 5
              have hc := ab_ (ho.kept HE.out.1 id) 18 (HC.out.2.1 1)
              exact dp_ hJ (by simp [execOp, h104, hc, go_sem])
            · have h10 : zp_ a 10 M 0 := (hf 10).trans rfl
              exact dp_ hJ (by simp [execOp, h10, go_sem])
            · have h106 : z_ a 106 _ := hd 7
              exact dp_ hJ (by simp [execOp, h106, go_sem])
            · have h107 : z_ a 107 _ := hd 8
              have hc := ab_ (ho.kept HE.out.1 id) 19 (HC.out.2.1 2)
              exact dp_ hJ (by simp [execOp, h107, hc, go_sem])
            · have h10 : zp_ a 10 M 0 := (hf 10).trans rfl
              exact dp_ hJ (by simp [execOp, h10, go_sem])
            · have h109 : z_ a 109 _ := hd 10
              exact dp_ hJ (by simp [execOp, h109, go_sem])
            · have h110 : z_ a 110 _ := hd 11
              have hc := ab_ (ho.kept HE.out.1 id) 20 (HC.out.2.1 3)
              exact dp_ hJ (by simp [execOp, h110, hc, go_sem])
            · have h103 : z_ a 103 _ := hd 4
              have h105 : z_ a 105 _ := hd 6
              have h108 : z_ a 108 _ := hd 9
              have h111 : z_ a 111 _ := hd 12
              exact bc_ (v := .slice (some ⟨wr.heap.size, 0, none⟩) 4 4) (w' := wr.alloc (.cells [.int .i64 n1, .int .i64 n2, .int .i64 n3, .int .i64 n4].toArray 3)) (by simp [execOp, h103, h105, h108, h111, go_sem]) ⟨⟨_, rfl, heap_alloc_new _ _⟩, (Only.refl _ _).alloc _, trivial⟩
            · have h112 := hd 13
              obtain ⟨g, h8', hg⟩ : ∃ g, a.tmps[(112 : Nat)]?.getD undef = .slice (some ⟨g, 0, none⟩) 4 4 ∧ wr.heap[g]? = some (.cells [.int .i64 n1, .int .i64 n2, .int .i64 n3, .int .i64 n4].toArray 3 (0, 0)) := h112
              refine a0_ (f := 17) (args := #[.slice (some ⟨g, 0, none⟩) 4 4]) (by simp [execOp, h8', go_sem]) ?_
              have hd := nj_ [n1, n2, n3, n4] g 0 4 (by simp) HIT2.out wr (fun q v hq => by rw [Nat.zero_add]; exact ab_ hg q hq) (lt_of_block hg)
              exact hd.mono fun e w' ⟨hb, he⟩ => ⟨_, he, by rw [HT2.out]; rfl, Only.of_below hb, trivial⟩
            · have h101 : z_ a 101 _ := hd 2
              have h113 : z_ a 113 _ := hd 14
              exact dp_ hJ (by simp [execOp, h101, h113, go_sem, hcat1])
            · have h10 : zp_ a 10 M 0 := (hf 10).trans rfl
              exact dp_ hJ (by simp [execOp, h10, go_sem])
            · have h115 : z_ a 115 _ := hd 16
              have hc := ab_ (ho.kept HE.out.1 id) 21 (HC.out.2.1 4)
              exact dp_ hJ (by simp [execOp, h115, hc, go_sem])
            · have h116 : z_ a 116 _ := hd 17
              exact dp_ hJ (by simp [execOp, h116, go_sem])
            · have h117 : z_ a 117 _ := hd 18
              refine a0_ (f := 15) (args := #[.int .i64 sv.length]) (by simp [execOp, h117, go_sem]) ?_
              exact (wnum sv.length HMC.out.2.2 _).mono fun e w' ⟨hb, he⟩ => ⟨_, he, by rw [HT3.out]; rfl, Only.of_below hb, trivial⟩
            · have h114 : z_ a 114 _ := hd 15
              have h118 : z_ a 118 _ := hd 19
              exact dp_ hJ (by simp [execOp, h114, h118, go_sem, hcat2])
          · intro fv w2 ho2 hj hs
            have q112 := hs 13 (by decide)
            rw [seqv hs [99, 100, 101, 102, 103, 104, 105, 106, 107, 108, 109, 110, 111, 112, 113, 114, 115, 116, 117, 118, 119] (by kernel_rfl)]
            simp only [actV, Act.put, List.drop, List.length, List.setIfInBounds_toArray, List.set_cons_zero, List.set_cons_succ]
            clear hs
            clear q112
            have hbw : Below M0.heap.size M0 w2 := ho2.below (Nat.le_refl _) (fun _ h => h.elim)
            have lM := hbw.size
            have lM0 := HE.out.2.size
            have lB := HB.out.2.1.size
            have lHM := HM.out
            go_wp2_with fail
            go_at_call 14
            obtain ⟨C, hC⟩ : ∃ C, C = Wire.cpuL cp ++ [n1, n2, n3, n4].flatMap intL ++ numL sv.length := ⟨_, rfl⟩
            have hcat : T1 ++ T2 ++ T3 = ⟨C.toArray⟩ := by
             rw [hC, HT1.out, HT2.out, HT3.out, ez_, ez_]
            have hthr : thrL (cp, n1, n2, n3, n4, sv) = C ++ sv.flatMap Wire.cpuL := by
             rw [hC, HX.out.2.2.2]
             simp [List.append_assoc]
            rw [hcat]
            have hln2 := HX.out.2.2.1
            rw [← HX.out.1, hthr] at hln2
            have hall2 : (bz_ modL l1 ++ bz_ strL l2 ++ numL l3.length ++ (l3.take k).flatMap thrL).length + (C ++ sv.flatMap Wire.cpuL).length ≤ 34359738368 := by
             have e1 : (bz_ thrL l3).length = (numL l3.length).length + (l3.flatMap thrL).length := by unfold bz_; rw [List.length_append]
             simp only [List.length_append] at hln2 ⊢
             omega
            refine (c7_ 77 [] c6_ w.heap.size (w.heap.size + 1) _ C _ (((HB.out.1.below (by rw [HM.out]; exact HE.out.2)).below hbw).is) (by
             rw [List.length_append (bs := sv.flatMap Wire.cpuL)] at hall2
             omega) (by omega)).mono ?_
            rintro e w3 ⟨rfl, hbl3, hb3, hk3⟩
            have hE := HE.out.2
            rw [← HM.out] at hE
            have k3 : w3.heap[w.heap.size]? = some (.cells #[.slice p1 l1.length c1, .slice p2 l2.length c2, .slice (some ⟨g, o, none⟩) l3.length c3, .slice p4 l4.length c4] 27 (0, 0)) := hk3.at_ ((hbw.block _ (by omega)).trans ((hE.block _ (by omega)).trans HB.out.2.2)) (by omega) (by decide)
            have b3 : Below w.heap.size w w3 := ((HB.out.2.1.trans (hE.mono HB.out.2.1.size)).trans (hbw.mono (by omega))).trans hb3
            have lMM := lt_of_block HE.out.1
            have lb1 := HB.out.1.is.lt
            have m3 := hk3.at_ ((hbw.block _ lMM).trans HE.out.1) (by omega) (by decide)
            have y21 : w3.cell? ⟨M, 21, none⟩ = some (.slice pv sv.length cv) := ab_ m3 21 (HC.out.2.1 4)
            have H3 := h3_ hbl3 b3 k3
            have HA2 := h3_ hall2 hthr hcat
            clear hbl3 hb3 hk3 hbw hcat hln2 ho2 hj lHM hE k3 b3 m3 hall2 hthr hC hcat1 hcat2
            go_wp2_with fail
            go_loopw [124] (fun i wr => ∃ q : Nat, i = .int .i64 q ∧ q ≤ sv.length ∧ f6_ 77 [] w.heap.size (w.heap.size + 1) (.pointer (some ⟨w.heap.size + 1, 0, none⟩)) (bz_ modL l1 ++ bz_ strL l2 ++ numL l3.length ++ (l3.take k).flatMap thrL ++ C ++ (sv.take q).flatMap Wire.cpuL) wr ∧ Below w.heap.size w wr ∧ wr.heap[w.heap.size]? = some (.cells #[.slice p1 l1.length c1, .slice p2 l2.length c2, .slice (some ⟨g, o, none⟩) l3.length c3, .slice p4 l4.length c4] 27 (0, 0))) (fun i _ => sv.length - (RowKit.intOf i).toNat)
            case atStart => exact ⟨0, rfl, Nat.zero_le _, by simpa using H3.out.1, H3.out.2.1, H3.out.2.2⟩
            case round =>
             obtain ⟨q, rfl, hq, hblq, hbq, hdq⟩ := hrel
             have HBQ := h3_ hblq hbq hdq
             have lwq := lt_of_block hdq
             have lwq0 := hbq.size
             clear hblq hbq hdq y21 H3
             by_cases hltq : q < sv.length
             · obtain ⟨gs, os, rfl, hgs, cq, hcq, hrq⟩ := HC.out.2.2.2.2.at_ q hltq
               obtain ⟨hcq, hcql⟩ := hcq
               have hmq := HMC.out.2.1 _ (List.getElem_mem hltq)
               obtain ⟨c, hc⟩ : ∃ c, c = sv[q] := ⟨_, rfl⟩
               rw [← hc] at hcq hcql hmq
               subst hcq
               have hrw : wr.rangeAt gs (os + q * 17) (c.map (Value.int .i64)) := fun j u hj => (HBQ.out.2.1.cell (p := ⟨gs, os + q * 17 + j, none⟩) hgs).trans (hrq j u hj)
               have hcl : (c.map (Value.int .i64)).length = 17 := by rw [List.length_map, hcql]
               have hsz : (Tryz.prog.info? 70).map (·.size) = some (c.map (Value.int .i64)).length := by rw [hcl]; kernel_rfl
               have hsz2 : (Tryz.prog.info? 70).map (·.size) = some (c.map (Value.int .i64)).toArray.size := by rw [List.size_toArray]; exact hsz
               have hall : (c.map (Value.int .i64)).toArray.all (·.oneCell') = true := by
                rw [Array.all_eq_true_iff_forall_mem]
                intro u hu
                obtain ⟨y, _, rfl⟩ := List.mem_map.1 (by simpa using hu)
                rfl
               have hcl2 : (#[.int .i64 0, .int .i64 0, .int .i64 0, .int .i64 0, .int .i64 0, .int .i64 0, .int .i64 0, .int .i64 0, .int .i64 0, .int .i64 0, .int .i64 0, .int .i64 0, .int .i64 0, .int .i64 0, .int .i64 0, .int .i64 0, .int .i64 0] : Array Value).size = (c.map (Value.int .i64)).toArray.size := by show (17 : Nat) = (c.map (Value.int .i64)).toArray.size; rw [List.size_toArray, hcl]
               obtain ⟨L, hL⟩ : ∃ L, L = c.map (Value.int .i64) := ⟨_, rfl⟩
               rw [← hL] at hrw hsz hsz2 hall hcl2
               have HS2 := h5_ hrw hsz hsz2 hall hcl2
               have HC2 := h4_ hc hcql hmq hL
               clear hrq hrw hsz hsz2 hall hcl2 hc hcql hmq hcl hL
               go_upto_region 25 with (first
                | (refine wpList_load_mid rfl 70 (.tmp 126) rfl gs (os + q * 17) rfl L _ HS2.out.1 Tryz.underlying70 rfl HS2.out.2.1 ?_)
                | ((with_reducible refine ad_ ?_); refine wpList_store_row rfl _ _ _ rfl wr.heap.size _ rfl rfl _ _ (heap_alloc_new wr (.cells #[.int .i64 0, .int .i64 0, .int .i64 0, .int .i64 0, .int .i64 0, .int .i64 0, .int .i64 0, .int .i64 0, .int .i64 0, .int .i64 0, .int .i64 0, .int .i64 0, .int .i64 0, .int .i64 0, .int .i64 0, .int .i64 0, .int .i64 0] 70)) HS2.out.2.2.1 HS2.out.2.2.2.2 HS2.out.2.2.2.1 ?_; (try simp only [World.setRow_alloc_new])))
               refine ac_ fun M2 hM2 => ?_
               have mB2 : Below wr.heap.size wr M2 := by rw [← hM2]; go_grown
               have me2 : M2.heap[wr.heap.size]? = some (.cells L.toArray 70 (0, 0)) := by rw [← hM2]; exact heap_alloc_new _ _
               have HE2 := h2_ me2 mB2
               clear hM2 me2 mB2
               go_wp2_with (refine wpList_load_row rfl 70 (.tmp 12) rfl wr.heap.size rfl 70 L.toArray (0, 0) _ HE2.out.1 Tryz.underlying70 rfl HS2.out.2.2.1 ?_)
               go_at_call 18
               have hcall := dcpub c HC2.out.2.1 HC2.out.2.2.1.1 M2
               rw [← HC2.out.2.2.2] at hcall
               refine hcall.mono ?_
               clear hcall
               rintro e w4 ⟨hb4, rfl⟩
               have H4 := h1_ hb4
               clear hb4
               go_wp2_with fail
               go_at_call 14
               have lw4 := H4.out.size
               have lM2 := HE2.out.2.size
               have hfl2 := fr_ Wire.cpuL sv q hltq
               rw [← HC2.out.1] at hfl2
               have hall2 := HA2.out.1
               refine (c7_ 77 [] c6_ w.heap.size (w.heap.size + 1) _ (Wire.cpuL c) _ (((HBQ.out.1.below HE2.out.2).below H4.out).is) (by
                simp only [List.length_append] at hall2 ⊢
                omega) (by omega)).mono ?_
               rintro e w5 ⟨rfl, hbl5, hb5, hk5⟩
               have H5 := h3_ hbl5 hb5 hk5
               clear hbl5 hb5 hk5 hfl2 hall2
               have hqb := HMC.out.2.2
               go_wp2
               go_roundw
               case rel =>
                obtain ⟨hbl5, hb5, hk5⟩ := H5.out
                obtain ⟨hblq, hbq, hdq⟩ := HBQ.out
                refine ⟨q + 1, rfl, by omega, ?_, ((hbq.trans (HE2.out.2.mono hbq.size)).trans (H4.out.mono (by omega))).trans hb5, ?_⟩
                · rw [fq_ Wire.cpuL sv q hltq, ← HC2.out.1, ← List.append_assoc]
                  exact hbl5
                · exact hk5.at_ ((H4.out.block _ (Nat.lt_of_lt_of_le (lt_of_block hdq) HE2.out.2.size)).trans (at_b HE2.out.2 hdq)) (by omega) (by decide)
               case measure => simp [RowKit.intOf]; omega
             · obtain rfl : q = sv.length := by omega
               go_wp2
               go_roundw
               case rel =>
                obtain ⟨hblq, hbq, hdq⟩ := HBQ.out
                rw [List.take_length] at hblq
                refine ⟨k + 1, rfl, by omega, ?_, hbq, hdq⟩
                rw [fq_ thrL l3 k hlt, ← HX.out.1, HA2.out.2.1]
                simpa [List.append_assoc] using hblq
               case measure => simp [RowKit.intOf]; omega

        · obtain rfl : k = l3.length := by omega
          obtain ⟨hbl, hb, hd⟩ := HB.out
          rw [List.take_length] at hbl
          have hfull : bz_ modL l1 ++ bz_ strL l2 ++ numL l3.length ++ l3.flatMap thrL = bz_ modL l1 ++ bz_ strL l2 ++ bz_ thrL l3 := by unfold bz_; simp [List.append_assoc]
          rw [hfull] at hbl
          have HB := h3_ hbl hb hd
          have d4 := al_ hd 3 rfl
          clear hbl hb hd hfull
          go_wp2_with fail
          go_at_call 15
          refine (wnum l4.length hl4 _).mono ?_
          rintro e w1 ⟨hb1, rfl⟩
          have H1 := h1_ hb1
          clear hb1 d4
          go_wp2_with fail
          go_at_call 14
          have lwb := HB.out.2.1.size
          have lw1 := H1.out.size
          refine (c7_ 77 [] c6_ w.heap.size (w.heap.size + 1) _ (numL l4.length) _ ((HB.out.1.below H1.out).is) (by
           have := b0_ (m := l4.length) (by omega)
           try simp only [List.length_append]
           omega) (by omega)).mono ?_
          rintro e w2 ⟨rfl, hbl2, hb2, hk2⟩
          have vd1 := at_b H1.out HB.out.2.2
          have vd2 := hk2.at_ vd1 (by omega) (by decide)
          have b2 := (HB.out.2.1.trans (H1.out.mono HB.out.2.1.size)).trans hb2
          have d4 := al_ vd2 3 rfl
          have H2 := h3_ hbl2 b2 vd2
          clear hbl2 hb2 hk2 vd1 vd2 b2 HB H1 lwr hk hlt
          go_wp2_with fail
          go_loopw [141] (fun i wr => ∃ k : Nat, i = .int .i64 k ∧ k ≤ l4.length ∧ f6_ 77 [] w.heap.size (w.heap.size + 1) (.pointer (some ⟨w.heap.size + 1, 0, none⟩)) (bz_ modL l1 ++ bz_ strL l2 ++ bz_ thrL l3 ++ numL l4.length ++ (l4.take k).flatMap chkL) wr ∧ Below w.heap.size w wr ∧ wr.heap[w.heap.size]? = some (.cells #[.slice p1 l1.length c1, .slice p2 l2.length c2, .slice p3 l3.length c3, .slice p4 l4.length c4] 27 (0, 0))) (fun i _ => l4.length - (RowKit.intOf i).toNat)
          case atStart => exact ⟨0, rfl, Nat.zero_le _, by simpa using H2.out.1, H2.out.2.1, H2.out.2.2⟩
          case round =>
           clear H2
           obtain ⟨k, rfl, hk, hbl, hb, hd⟩ := hrel
           have HB := h3_ hbl hb hd
           have lwr := lt_of_block hd
           clear hbl hb hd
           by_cases hlt : k < l4.length
           · obtain ⟨g, o, rfl, hg, cs, hcs, hrg⟩ := HR.out.2.2.2.at_ k hlt
             have hmk := HO.out.2.2.2 _ (List.getElem_mem hlt)
             obtain ⟨x, hx⟩ : ∃ x, x = l4[k] := ⟨_, rfl⟩
             rw [← hx] at hcs hmk
             obtain ⟨n1, n2⟩ := x
             unfold chkR at hcs
             subst hcs
             have hr2 : ∀ j u, [.int .i64 n1, strB n2][j]? = some u → wr.cell? ⟨g, o + k * 2 + j, none⟩ = some u := fun j u hj => (HB.out.2.1.cell (p := ⟨g, o + k * 2 + j, none⟩) hg).trans (hrg j u hj)
             have y0 : wr.cell? ⟨g, o + k * 2, none⟩ = some (.int .i64 n1) := hr2 0 _ rfl
             have y1 := hr2 1 _ rfl
             have hfl := fr_ chkL l4 k hlt
             have hmod : chkL (n1, n2) = intL n1 ++ bm_ n2 := rfl
             have HX := h4_ hx hmk hfl hmod
             clear hx hmk hfl hr2 hrg hmod
             unfold strB at y1
             go_upto_region 32 with ((with_reducible refine ad_ ?_); refine sr_ rfl rfl (h := ?_); (try simp only [World.setRow_alloc_new]))
             refine ac_ fun M0 hM => ?_
             have mB1 : Below wr.heap.size wr M0 := by rw [← hM]; go_grown
             have me : M0.heap[wr.heap.size]? = some (.cells [.int .i64 n1, strB n2].toArray 65 (0, 0)) := by rw [← hM]; exact heap_alloc_new _ _
             have HE := h2_ me mB1
             generalize hMe : wr.heap.size = M at *
             have HM := h1_ hMe
             clear hMe
             clear y0 y1 hM me mB1
             obtain ⟨hx, hmk, hfl, hmod⟩ := HX.out
             have hln : (chkL (n1, n2)).length ≤ 34359738368 := by
              have : (bz_ chkL l4).length = (numL l4.length).length + (l4.flatMap chkL).length := by unfold bz_; rw [List.length_append]
              rw [← hx] at hfl
              omega
             rw [hmod] at hln
             simp only [List.length_append] at hln
             have ht2 : n2.length ≤ (bm_ n2).length := by unfold bm_; rw [List.length_append]; omega
             obtain ⟨T1, hT1⟩ : ∃ A, A = (⟨([n1].flatMap intL).toArray⟩ : ByteArray) := ⟨_, rfl⟩
             have HIT1 : Hid (∀ n ∈ [n1], I64 n) := h1_ (by
              intro n hn
              simp only [List.mem_cons, List.not_mem_nil, or_false] at hn
              rcases hn with rfl
              · exact hmk.1)
             have zT1 : T1.size ≤ 10 := by rw [hT1]; exact fd_ [n1] HIT1.out
             have HT1 := h1_ hT1
             obtain ⟨T2, hT2⟩ : ∃ A, A = (⟨(bm_ n2).toArray⟩ : ByteArray) := ⟨_, rfl⟩
             have zT2 : T2.size = (bm_ n2).length := by rw [hT2]; rfl
             have HT2 := h1_ hT2
             have hcat1 : ¬ 9223372036854775807 < T1.size + T2.size := by omega
             clear hx hmk hfl hmod hT1 zT1 hT2 zT2
             refine wq_ 8 [] (fun _ => False) [.pt M 0, .val (.int .i64 n1), .more (fun v x => ∃ g, v = .slice (some ⟨g, 0, none⟩) 1 1 ∧ x.heap[g]? = some (.cells [.int .i64 n1].toArray 3 (0, 0))) (fun v x y ho h => by obtain ⟨g, h1, h2⟩ := h; exact ⟨g, h1, ho.kept h2 id⟩), .val (.string T1), .pt M 1, .val (strB n2), .val (.string T2), .val (.string (T1 ++ T2))] (fun _ _ => True) (by kernel_rfl) (by kernel_rfl) (trivial) ?_ ?_
             · simp only [a4_, List.take]
               refine ⟨?_, ?_, ?_, ?_, ?_, ?_, ?_, ?_, trivial⟩
               all_goals intro k a wr ho hJ hk hr hf hd
               · have h14 : zp_ a 14 M 0 := (hf 14).trans rfl
                 exact dp_ hJ (by simp [execOp, h14, go_sem])
               · have h145 : z_ a 145 _ := hd 0
                 have hc := ab_ (ho.kept HE.out.1 id) 0 rfl
                 exact dp_ hJ (by simp [execOp, h145, hc, go_sem])
               · have h146 : z_ a 146 _ := hd 1
                 exact bc_ (v := .slice (some ⟨wr.heap.size, 0, none⟩) 1 1) (w' := wr.alloc (.cells [.int .i64 n1].toArray 3)) (by simp [execOp, h146, go_sem]) ⟨⟨_, rfl, heap_alloc_new _ _⟩, (Only.refl _ _).alloc _, trivial⟩
               · have h147 := hd 2
                 obtain ⟨g, h8', hg⟩ : ∃ g, a.tmps[(147 : Nat)]?.getD undef = .slice (some ⟨g, 0, none⟩) 1 1 ∧ wr.heap[g]? = some (.cells [.int .i64 n1].toArray 3 (0, 0)) := h147
                 refine a0_ (f := 17) (args := #[.slice (some ⟨g, 0, none⟩) 1 1]) (by simp [execOp, h8', go_sem]) ?_
                 have hd := nj_ [n1] g 0 1 (by simp) HIT1.out wr (fun q v hq => by rw [Nat.zero_add]; exact ab_ hg q hq) (lt_of_block hg)
                 exact hd.mono fun e w' ⟨hb, he⟩ => ⟨_, he, by rw [HT1.out]; rfl, Only.of_below hb, trivial⟩
               · have h14 : zp_ a 14 M 0 := (hf 14).trans rfl
                 exact dp_ hJ (by simp [execOp, h14, go_sem])
               · have h149 : z_ a 149 _ := hd 4
                 have hc := ab_ (ho.kept HE.out.1 id) 1 rfl
                 exact dp_ hJ (by simp [execOp, h149, hc, go_sem])
               · have h150 : z_ a 150 _ := hd 5
                 refine a0_ (f := 16) (args := #[strB n2]) (by simp [execOp, h150, strB, go_sem]) ?_
                 exact (lr_ n2 (by omega) _).mono fun e w' ⟨hb, he⟩ => ⟨_, he, by rw [HT2.out]; rfl, Only.of_below hb, trivial⟩
               · have h148 : z_ a 148 _ := hd 3
                 have h151 : z_ a 151 _ := hd 6
                 exact dp_ hJ (by simp [execOp, h148, h151, go_sem, hcat1])
             · intro fv w2 ho2 hj hs
               have q147 := hs 2 (by decide)
               rw [seqv hs [145, 146, 147, 148, 149, 150, 151, 152] (by kernel_rfl)]
               simp only [actV, Act.put, List.drop, List.length, List.setIfInBounds_toArray, List.set_cons_zero, List.set_cons_succ]
               clear hs
               clear q147
               have hbw : Below M0.heap.size M0 w2 := ho2.below (Nat.le_refl _) (fun _ h => h.elim)
               have lM := hbw.size
               have lM0 := HE.out.2.size
               have lB := HB.out.2.1.size
               have lHM := HM.out
               go_wp2_with fail
               go_at_call 14
               have hcat : T1 ++ T2 = ⟨(chkL (n1, n2)).toArray⟩ := by
                rw [HT1.out, HT2.out, ez_]
                simp [chkL]
               rw [hcat]
               have hln2 := HX.out.2.2.1
               refine (c7_ 77 [] c6_ w.heap.size (w.heap.size + 1) _ (chkL (n1, n2)) _ (((HB.out.1.below (by rw [HM.out]; exact HE.out.2)).below hbw).is) (by
                have e1 : (bz_ chkL l4).length = (numL l4.length).length + (l4.flatMap chkL).length := by unfold bz_; rw [List.length_append]
                have e2 := HX.out.1
                rw [← e2] at hln2
                try simp only [List.length_append]
                omega) (by omega)).mono ?_
               rintro e w3 ⟨rfl, hbl3, hb3, hk3⟩
               have H3 := h5_ hbl3 hb3 hk3 hbw hcat
               clear hbl3 hb3 hk3 hbw hcat hln2 ho2 hj lHM
               go_wp2
               go_roundw
               case rel =>
                obtain ⟨hbl3, hb3, hk3, hbw, hcat⟩ := H3.out
                obtain ⟨hbl, hb, hd⟩ := HB.out
                have hE := HE.out.2
                have lM0 := HE.out.2.size
                have lHM := HM.out
                rw [← HM.out] at hE
                refine ⟨k + 1, rfl, by omega, ?_, ((hb.trans (hE.mono hb.size)).trans (hbw.mono (by omega))).trans hb3, ?_⟩
                · rw [fq_ chkL l4 k hlt, ← HX.out.1, ← List.append_assoc]
                  exact hbl3
                · exact hk3.at_ ((hbw.block _ (by omega)).trans ((hE.block _ (by omega)).trans hd)) (by omega) (by decide)
               case measure => simp [RowKit.intOf]; omega

           · obtain rfl : k = l4.length := by omega
             go_wp2_with fail
             go_at_call 19
             refine (o4_ 77 [] c6_ w.heap.size (w.heap.size + 1) _ _ HB.out.1.is (by simp [bz_, jp_])).mono ?_
             rintro e w2 ⟨rfl, hb2⟩
             have H2 := h1_ hb2
             clear hb2
             go_wp2
             go_ret
             exact ⟨HB.out.2.1.trans H2.out, rfl⟩




end
section
open Go.RowKit Wire
attribute [local go_sem] ak_ af_
theorem et_.agg {lo : Nat} {w : World} {v : Value} {D : fx_} (h : et_ lo w v D) : ∃ a1 a2 a3 b1 b2 b3 c1 c2 c3 d1 d2 d3, v = .agg #[.slice a1 a2 a3, .slice b1 b2 b3, .slice c1 c2 c3, .slice d1 d2 d3] := by
 obtain ⟨v1, v2, v3, v4, rfl, h1, h2, h3, h4⟩ := h
 obtain ⟨p1, c1, rfl⟩ := h1.slice
 obtain ⟨p2, c2, rfl⟩ := h2.slice
 obtain ⟨p3, c3, rfl⟩ := h3.slice
 obtain ⟨p4, c4, rfl⟩ := h4.slice
 exact ⟨_, _, _, _, _, _, _, _, _, _, _, _, rfl⟩
theorem str_eq (a b : List UInt8) : ((⟨a.toArray⟩ : ByteArray).toList == (⟨b.toArray⟩ : ByteArray).toList) = decide (a = b) := by
 rw [ByteArray.toList_eq, ByteArray.toList_eq]
 simp
 by_cases h : a = b
 · subst h; simp
 · simp [h]
theorem dsame (D E : fx_) (hD : er_ D) (hE : er_ E) (tD : (cx_ D).length ≤ 34359738368) (tE : (cx_ E).length ≤ 34359738368) (lo : Nat) (u v : Value) (w : World) (hu : et_ lo w u D) (hv : et_ lo w v E) :
 Calls Tryz.prog 8 #[u, v] w fun e w' => Below w.heap.size w w' ∧ e = .returned (.bool (decide (cx_ D = cx_ E))) := by
 obtain ⟨a1, a2, a3, b1, b2, b3, c1, c2, c3, d1, d2, d3, hua⟩ := hu.agg
 obtain ⟨e1, e2, e3, f1, f2, f3, g1, g2, g3, k1, k2, k3, hva⟩ := hv.agg
 subst hua hva
 have HU := h2_ hu hv
 clear hu hv
 go_enter Tryz.func8, Tryz.ntmps8
 go_upto_region 1 with fail
 refine ac_ fun X hX => ?_
 have xu : X.heap[w.heap.size]? = some (.cells [.slice a1 a2 a3, .slice b1 b2 b3, .slice c1 c2 c3, .slice d1 d2 d3].toArray 27 (0, 0)) := by rw [← hX]; exact ae_ (heap_alloc_new _ _)
 have xv : X.heap[w.heap.size + 1]? = some (.cells [.slice e1 e2 e3, .slice f1 f2 f3, .slice g1 g2 g3, .slice k1 k2 k3].toArray 27 (0, 0)) := by rw [← hX]; exact block_at (by simp)
 have xB : Below w.heap.size w X := by rw [← hX]; go_grown
 have HX := h3_ xu xv xB
 clear xu xv xB hX
 have HT := h4_ hD hE tD tE
 clear hD hE tD tE
 obtain ⟨A, hA⟩ : ∃ A, A = (⟨(cx_ D).toArray⟩ : ByteArray) := ⟨_, rfl⟩
 obtain ⟨B, hB⟩ : ∃ B, B = (⟨(cx_ E).toArray⟩ : ByteArray) := ⟨_, rfl⟩
 have HA := h1_ hA
 have HB := h1_ hB
 clear hA hB
 refine wq_ 5 [] (fun _ => False) [.val (.agg #[.slice a1 a2 a3, .slice b1 b2 b3, .slice c1 c2 c3, .slice d1 d2 d3]), .val (.string A), .val (.agg #[.slice e1 e2 e3, .slice f1 f2 f3, .slice g1 g2 g3, .slice k1 k2 k3]), .val (.string B), .val (.bool (A.toList == B.toList))] (fun _ _ => True) (by kernel_rfl) (by kernel_rfl) (trivial) ?_ ?_
 · simp only [a4_, List.take]
   refine ⟨?_, ?_, ?_, ?_, ?_, trivial⟩
   all_goals intro k a wr ho hJ hk hr hf hd
   · have h2 : zp_ a 2 w.heap.size 0 := (hf 2).trans rfl
     exact ei_ 2 27 rfl w.heap.size 0 h2 [.slice a1 a2 a3, .slice b1 b2 b3, .slice c1 c2 c3, .slice d1 d2 d3] _ (fun j u hj => by rw [Nat.zero_add]; exact ab_ (ho.kept HX.out.1 id) j hj) Tryz.underlying27 rfl (by kernel_rfl) ⟨rfl, Only.refl _ _, hJ⟩
   · have h5 : z_ a 5 _ := hd 0
     refine a0_ (f := 6) (args := #[.agg #[.slice a1 a2 a3, .slice b1 b2 b3, .slice c1 c2 c3, .slice d1 d2 d3]]) (by simp [execOp, h5, go_sem]) ?_
     exact (j5_ D HT.out.1 HT.out.2.2.1 lo _ _ ((HU.out.1.below HX.out.2.2).below (ho.below (Nat.le_refl _) (fun _ h => h.elim)))).mono fun e w' ⟨hb, he⟩ => ⟨_, he, by rw [HA.out]; rfl, Only.of_below hb, trivial⟩
   · have h3 : zp_ a 3 (w.heap.size + 1) 0 := (hf 3).trans rfl
     exact ei_ 3 27 rfl (w.heap.size + 1) 0 h3 [.slice e1 e2 e3, .slice f1 f2 f3, .slice g1 g2 g3, .slice k1 k2 k3] _ (fun j u hj => by rw [Nat.zero_add]; exact ab_ (ho.kept HX.out.2.1 id) j hj) Tryz.underlying27 rfl (by kernel_rfl) ⟨rfl, Only.refl _ _, hJ⟩
   · have h7 : z_ a 7 _ := hd 2
     refine a0_ (f := 6) (args := #[.agg #[.slice e1 e2 e3, .slice f1 f2 f3, .slice g1 g2 g3, .slice k1 k2 k3]]) (by simp [execOp, h7, go_sem]) ?_
     exact (j5_ E HT.out.2.1 HT.out.2.2.2 lo _ _ ((HU.out.2.below HX.out.2.2).below (ho.below (Nat.le_refl _) (fun _ h => h.elim)))).mono fun e w' ⟨hb, he⟩ => ⟨_, he, by rw [HB.out]; rfl, Only.of_below hb, trivial⟩
   · have h6 : z_ a 6 _ := hd 1
     have h8 : z_ a 8 _ := hd 3
     exact dp_ hJ (by simp [execOp, h6, h8, go_sem])
 · intro fv w2 ho2 hj hs
   rw [seqv hs [5, 6, 7, 8, 9] (by kernel_rfl)]
   simp only [actV, Act.put, List.drop, List.length, List.setIfInBounds_toArray, List.set_cons_zero, List.set_cons_succ]
   clear hs
   go_wp2
   go_ret
   refine ⟨HX.out.2.2.trans ((ho2.below (Nat.le_refl _) (fun _ h => h.elim)).mono HX.out.2.2.size), ?_⟩
   rw [HA.out, HB.out, str_eq]
   rfl
end
section
open Go.RowKit Wire
attribute [local go_sem] ak_ af_
def IsBool (e : Ending) : Prop := ∃ b, e = .returned (.bool b)
def intV : Value → Int
 | .int _ n => n
 | _ => 0
theorem nk_ (D : fx_) (hok : er_ D) (lo : Nat) (v : Value) (w : World) (h : et_ lo w v D) :
 Calls Tryz.prog 5 #[v] w fun e w' => Below w.heap.size w w' ∧ IsBool e := by
 obtain ⟨l1, l2, l3, l4⟩ := D
 obtain ⟨v1, v2, v3, v4, rfl, h1, h2, h3, h4⟩ := h
 dsimp only at h1 h2 h3 h4
 obtain ⟨p1, c1, rfl⟩ := h1.slice
 obtain ⟨p2, c2, rfl⟩ := h2.slice
 obtain ⟨p3, c3, rfl⟩ := h3.slice
 obtain ⟨p4, c4, rfl⟩ := h4.slice
 obtain ⟨ok1, ok2, ok3, ok4⟩ := hok
 have hl3 : l3.length ≤ 9223372036854775807 := ok3.2
 have hl4 : l4.length ≤ 9223372036854775807 := ok4.2
 have HR := h2_ h3 h4
 clear h1 h2 h3 h4 ok1 ok2 ok3 ok4
 go_enter Tryz.func5, Tryz.ntmps5
 go_upto_region 2 with fail
 refine ac_ fun V hV => ?_
 have vB : Below w.heap.size w V := by rw [← hV]; go_grown
 have vd : V.heap[w.heap.size]? = some (.cells #[.slice p1 l1.length c1, .slice p2 l2.length c2, .slice p3 l3.length c3, .slice p4 l4.length c4] 27 (0, 0)) := by rw [← hV]; exact heap_alloc_new _ _
 have d0 := al_ vd 0 rfl; have d1 := al_ vd 1 rfl; have d2 := al_ vd 2 rfl; have d3 := al_ vd 3 rfl
 have lV := lt_of_block vd
 have HV := h2_ vB vd
 clear hV vB vd
 go_wp2_with fail
 go_loopw [3, 4] (fun n i wr => ∃ (x : Int) (k : Nat), k ≤ l4.length ∧ n = .int .i64 x ∧ i = .int .i64 k ∧ wr = V) (fun _ i _ => l4.length - (intV i).toNat)
 case atStart => exact ⟨0, 0, Nat.zero_le _, rfl, rfl, rfl⟩
 case round =>
  obtain ⟨x, k, hk, rfl, rfl, rfl⟩ := hrel
  by_cases hlt : k < l4.length
  · obtain ⟨g, o, rfl, hg, cs, hcs, hrg⟩ := HR.out.2.at_ k hlt
    unfold chkR at hcs
    subst hcs
    have y1 : wr.cell? ⟨g, o + k * 2 + 1, none⟩ = some (strB l4[k].2) := (HV.out.1.cell (p := ⟨g, o + k * 2 + 1, none⟩) hg).trans (hrg 1 _ rfl)
    obtain ⟨S, hS⟩ : ∃ S, S = (⟨l4[k].2.toArray⟩ : ByteArray) := ⟨_, rfl⟩
    unfold strB at y1
    rw [← hS] at y1
    clear hS hrg
    go_wp2
    go_roundw
    case rel => exact ⟨_, k + 1, by omega, rfl, by go_num, trivial⟩
    case measure => simp [intV]; omega
  · obtain rfl : k = l4.length := by omega
    go_wp2_with fail
    go_loopw [5] (fun i wr' => ∃ (k : Nat), k ≤ l3.length ∧ i = .int .i64 k ∧ wr' = wr) (fun i _ => l3.length - (intV i).toNat)
    case atStart => exact ⟨0, Nat.zero_le _, rfl, rfl⟩
    case round =>
     obtain ⟨k, hk, rfl, rfl⟩ := hrel
     by_cases hlt : k < l3.length
     · obtain ⟨g, o, rfl, hg, cs, hcs, hrg⟩ := HR.out.1.at_ k hlt
       obtain ⟨v, rfl, hl17, hsv⟩ := hcs
       obtain ⟨ps, cps, rfl⟩ := hsv.slice
       obtain ⟨n5, hn5⟩ : ∃ n, n = l3[k].2.2.2.2.2.length := ⟨_, rfl⟩
       rw [← hn5] at hrg
       have y21 : wr.cell? ⟨g, o + k * 22 + 21, none⟩ = some (.slice ps n5 cps) := (HV.out.1.cell (p := ⟨g, o + k * 22 + 21, none⟩) hg).trans (hrg 21 _ (by
        rw [List.getElem?_append_right (by simp [hl17])]
        simp [hl17]))
       clear hrg hn5 hsv
       by_cases h20 : 20 < n5
       · go_wp2
         go_ret
         exact ⟨HV.out.1, _, rfl⟩
       · go_wp2
         go_roundw
         case rel => exact ⟨k + 1, by omega, by go_num, trivial⟩
         case measure => simp [intV]; omega
     · obtain rfl : k = l3.length := by omega
       go_wp2
       all_goals go_ret
       all_goals exact ⟨HV.out.1, _, rfl⟩
end
section
open Go.RowKit Wire BigFrame
attribute [local go_sem] ak_ af_
attribute [local irreducible] repS cpuS modS strS chkS thrS du_
def SmallOk : Prop := ∀ (t : Nat → Nat) (c : Nat → Int) (w : World), Forms w → Tabs t c w → Calls Tryz.prog 4 #[] w fun e w' => e = .returned (.bool true) ∧ Below w.heap.size w w'
theorem a2_ {P : Program} {w : World} {o : Oper} {a : Act} {K : Act → Prop} (ty : TypeId) (x : Tmp) (ho : o.op = .load ty (.tmp x)) (b : Nat) (hx : a.tmps[x]?.getD undef = .pointer (some ⟨b, 0, none⟩)) (t : TypeId) (cs : Array Value) (fr : Nat × Nat)
 (hb : w.heap[b]? = some (.cells cs t fr)) (d : TypeDesc) (hu : P.underlying ty = some d) (hd : d.isRow = true) (hi : (P.info? ty).map (·.size) = some cs.size) (hk : K (a.put o.dst (.agg cs))) :
 o.quiet P a (fun w' => ∃ k, w' = ext w k) K := by
 refine ⟨.agg cs, ?_, hk⟩
 rintro w' ⟨k, rfl⟩
 have hlt := lt_of_block hb
 have hb' : (ext w k).heap[b]? = some (.cells cs t fr) := (i5_ w k b hlt).trans hb
 unfold Oper.quietAt
 have hr : (ext w k).rangeAt b 0 cs.toList := fun j u hj => by rw [Nat.zero_add]; exact al_ hb' j (by rw [← Array.getElem?_toList]; exact hj)
 simp [execOp, ho, Act.eval, hx, Instr.loadAt, Instr.sureAddr, run_loadVar_mid (ext w k) b 0 ty cs.toList d hr hu hd (by rw [hi]; simp)]
 exact ⟨rfl, rfl⟩
theorem is_ {P : Program} {ops : Array Oper} {rest : List Oper} {o : Oper} {a : Act} {w : World} {Q : Exit → Act → World → Prop} (hgd : Region.wanted o (yielded ops a.tmps) = true) (ty : TypeId) (x : Operand) (ho : o.op = .load ty x)
 (g : Nat) (hx : a.eval x = .pointer (some ⟨g, 0, none⟩)) (t : TypeId) (cs : Array Value) (fr : Nat × Nat) (d : TypeDesc) (hg : w.heap[g]? = some (.cells cs t fr))
 (hu : P.underlying ty = some d) (hd : (match d with | .struct _ | .array _ _ => true | _ => false) = true) (hi : (P.info? ty).map (·.size) = some cs.size)
 (h : wpList P ops Q rest (a.put o.dst (.agg cs)) w) : wpList P ops Q (o :: rest) a w :=
 wpList_step fun K hK => by simp only [hgd, if_true]; exact wp_load_row ty x ho g hx t cs fr d hg hu hd hi (hK _ _ h)
theorem nl_ (lo : Nat) (w : World) : et_ lo w (.agg #[.slice none 0 0, .slice none 0 0, .slice none 0 0, .slice none 0 0]) ([], [], [], []) :=
 ⟨_, _, _, _, rfl, .inl ⟨rfl, _, _, rfl⟩, .inl ⟨rfl, _, _, rfl⟩, .inl ⟨rfl, _, _, rfl⟩, .inl ⟨rfl, _, _, rfl⟩⟩
theorem vq_ : er_ ([], [], [], []) := by
 unfold er_
 simp
theorem q6_ : (cx_ ([], [], [], [])).length ≤ 34359738368 := by
 unfold cx_ bz_
 have := b0_ (m := 0) (by decide)
 simp
 omega
theorem q7_ (D : fx_) (hD : er_ D) (tD : (cx_ D).length ≤ 34359738368) (w : World) : Calls Tryz.prog 7 #[strB (cx_ D)] w fun e w' => Below w.heap.size w w' ∧ ∃ v, e = .returned (.tuple #[v, .bool true]) ∧ et_ w.heap.size w' v D := by
 refine (dread (cx_ D) (by omega) w).mono ?_
 rintro e w' ⟨hb, v, he, hv⟩
 have hr : fn_ (cx_ D) = true := by unfold fn_; rw [k2_ D hD]; rfl
 rw [hr, if_pos rfl, k2_ D hD] at hv
 rw [hr] at he
 exact ⟨hb, v, he, hv⟩
theorem sj_ (D : fx_) (hD : er_ D) (tD : (cx_ D).length ≤ 34359738368) (x : UInt8) (w : World) : Calls Tryz.prog 7 #[strB (cx_ D ++ [x])] w fun e w' => Below w.heap.size w w' ∧ e = .returned (.tuple #[.agg #[.slice none 0 0, .slice none 0 0, .slice none 0 0, .slice none 0 0], .bool false]) := by
 refine (dread (cx_ D ++ [x]) (by simp; omega) w).mono ?_
 rintro e w' ⟨hb, v, he, hv⟩
 rw [t8_ D hD x] at he hv
 rw [if_neg (by simp)] at hv
 subst hv
 exact ⟨hb, he⟩
theorem vr_ (l : List UInt8) (hl : l.length ≤ 34359738368) (w : World) : Calls Tryz.prog 7 #[strB l] w fun e w' => Below w.heap.size w w' ∧ ∃ (b : Bool) (Y : fx_) (v : Value), e = .returned (.tuple #[v, .bool b]) ∧ et_ w.heap.size w' v Y ∧ er_ Y ∧ (cx_ Y).length ≤ 34359738368 ∧ (b = true → cx_ Y = l) ∧ (b = false → Y = ([], [], [], [])) := by
 refine (dread l (by omega) w).mono ?_
 rintro e w' ⟨hb, v, he, hv⟩
 cases hr : fn_ l with
 | true =>
  rw [hr, if_pos rfl] at hv
  rw [hr] at he
  obtain ⟨h1, h2⟩ := t9_ l hr
  exact ⟨hb, true, (iq_ l).1, v, he, hv, h2, by rw [h1]; exact hl, fun _ => h1, (fun h => by cases h)⟩
 | false =>
  rw [hr, if_neg (by simp)] at hv
  rw [hr] at he
  subst hv
  exact ⟨hb, false, _, _, he, nl_ _ _, vq_, q6_, (fun h => by cases h), fun _ => rfl⟩
end
end Go.Proofs.YtacaejpamidkcaaGreatDoor
