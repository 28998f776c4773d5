/- proc: New, and where its memory lies. -/
import Derived.Test.YtkbilipgidcgeaaGreatDoorH29
set_option linter.unusedVariables false
set_option linter.unusedSimpArgs false
namespace Go.Proofs.YtkbilipgidcgeaaGreatDoor.Tiny
open Go.RowKit Go.ChangeMaps
attribute [local go_sem] ext_cell ext_frozen run_store_func mk_ints0 mk_ints1 mk_ints2 mk_lists0 mk_lists1 mk_lists2 ta_ints run_makeMap
attribute [local irreducible] labCells modC
attribute [local go_sem] labGet0 labGet1 labGet2 labGet3 labGet4 labGet5 labGet6 labGet7 labGet8 labGet9 labGet10 labGet11 labGet12 labGet13 labGet14 labGet15 labGet16 labGet17 labGet18 labGet19 labGet20 labGet21 labGet22 labGet23 labGet24 labGet25
set_option maxRecDepth 100000 in
set_option maxHeartbeats 4000000 in
theorem pnew_fresh (g0 : Nat) (L : List UInt8) (B : ByteArray) (hB : B = ⟨L.toArray⟩) (hL : L.length = 256) (w : World) (hg : w.heap[g0]? = some (.cells (labCells B) 45 (0, 0))) :
    Calls Tryz.prog 7 #[.slice (some ⟨g0, 0, none⟩) 1 1, .string labS, .bool false] w fun e w' => ∃ n : PN, e = .returned (.tuple #[.pointer (some ⟨n.p, 0, none⟩), .int .i64 0]) ∧ Below w.heap.size w w' ∧ ProcAt B w' n ∧
      SpaceAt w' n.s (.slice (some ⟨n.g, 0, none⟩) 3 n.cap) [codeP L n.b1, dataP L n.b2, stackP n.b3] ∧ (∀ x, spaceFoot n.s (.slice (some ⟨n.g, 0, none⟩) 3 n.cap) [codeP L n.b1, dataP L n.b2, stackP n.b3] x → w.heap.size ≤ x) ∧ w.heap.size ≤ n.p := by
  have hsz := lab_size' hB hL
  have HB := Lib.hid (And.intro hB (And.intro hL hsz))
  have lg0 := lt_of_block hg
  have HG := Lib.hid hg
  clear hB hL hg hsz
  go_enter Tryz.func7, Tryz.ntmps7
  go_upto_region 4 with (first
    | (go_at_call 20; refine (new_any _).mono ?_; rintro e wz ⟨rfl, rfl⟩)
    | (go_at_call 21; refine (tnew _ _).mono ?_; rintro e wz ⟨rfl, rfl⟩))
  refine name_world fun V hV => ?_
  have vB : Below w.heap.size w V := by rw [← hV]; go_grown
  have vs : V.heap[w.heap.size]? = some (.cells #[.slice none 0 0] 141 (0, 0)) := by rw [← hV]; (repeat (first | exact block_at (by first | rfl | (simp; done) | (simp; omega)) | refine block_old ?_))
  have vp : V.heap[w.heap.size + 1]? = some (.cells [.pointer (some ⟨w.heap.size, 0, none⟩), .pointer (some ⟨w.heap.size + 1 + 1 + 3, 0, none⟩), .pointer none, .slice none 0 0, .slice none 0 0, .slice none 0 0, .bool false, .bool false].toArray 81 (0, 0)) := by rw [← hV]; (repeat (first | exact block_at (by first | rfl | (simp; done) | (simp; omega)) | refine block_old ?_))
  have vmo : V.heap[w.heap.size + 1 + 1]? = some (.map #[] 0) := by rw [← hV]; (repeat (first | exact block_at (by first | rfl | (simp; done) | (simp; omega)) | refine block_old ?_))
  have vth : V.heap[w.heap.size + 1 + 1 + 1]? = some (.map #[] 0) := by rw [← hV]; (repeat (first | exact block_at (by first | rfl | (simp; done) | (simp; omega)) | refine block_old ?_))
  have vat : V.heap[w.heap.size + 1 + 1 + 2]? = some (.map #[] 0) := by rw [← hV]; (repeat (first | exact block_at (by first | rfl | (simp; done) | (simp; omega)) | refine block_old ?_))
  have vb : V.heap[w.heap.size + 1 + 1 + 3]? = some (.cells (blocksC w.heap.size (w.heap.size + 1 + 1) (w.heap.size + 1 + 1 + 1) (w.heap.size + 1 + 1 + 2)).toArray 146 (0, 0)) := by rw [← hV]; (repeat (first | exact block_at (by first | rfl | (simp; done) | (simp; omega)) | refine block_old ?_))
  have vnm : V.heap[w.heap.size + 1 + 1 + 1 + 1 + 1 + 1]? = some (.map #[] 0) := by rw [← hV]; (repeat (first | exact block_at (by first | rfl | (simp; done) | (simp; omega)) | refine block_old ?_))
  clear hV
  generalize hnm : w.heap.size + 1 + 1 + 1 + 1 + 1 + 1 = nm at vnm ⊢
  generalize hb : w.heap.size + 1 + 1 + 3 = b at vb vp ⊢
  generalize hat : w.heap.size + 1 + 1 + 2 = at_ at vat vb ⊢
  generalize hth : w.heap.size + 1 + 1 + 1 = th at vth vb ⊢
  generalize hmo : w.heap.size + 1 + 1 = mo at vmo vb ⊢
  generalize hp : w.heap.size + 1 = p at vp ⊢
  have HPN := Lib.hid (show w.heap.size ≤ p by omega)
  have vg0 := (vB.block _ lg0).trans HG.out
  have lV := vB.size
  have lpV := lt_of_block vp
  have lnV := lt_of_block vnm
  have lgV := lt_of_block vg0
  have HN := Lib.hid (And.intro hnm (And.intro hb (And.intro hat (And.intro hth (And.intro hmo hp)))))
  have HV := Lib.hid (And.intro vB (And.intro vs (And.intro vp (And.intro vmo (And.intro vth (And.intro vat (And.intro vb (And.intro vnm vg0))))))))
  clear hnm hb hat hth hmo hp vB vs vp vmo vth vat vb vnm vg0
  go_wp2
  refine wp_loop_rounds 2 ?_
  rw [rounds_succ]
  go_upto_region 9 with (first
    | (refine wpList_load_row rfl 45 (.tmp 36) rfl g0 rfl 45 (labCells B) (0, 0) _ HV.out.2.2.2.2.2.2.2.2 Tryz.underlying45 rfl (lab_size B) ?_)
    | ((with_reducible refine at_store_law ?_); refine wpList_store_row rfl 45 _ _ rfl _ _ rfl rfl _ _ (by (repeat (first | assumption | exact heap_alloc_new _ _ | refine block_old ?_ | refine block_drew ?_ | apply setRow_heap | (refine (setRow_other _ _ _ _ ?_).trans ?_; omega)))) (lab_size B) (by unfold labCells; rfl) (lab_one B) ?_; (try simp only [World.setRow_alloc_new]))
    | (refine wpList_load_row rfl 45 (.tmp 11) rfl V.heap.size rfl 45 (labCells B) (0, 0) _ (heap_alloc_new _ _) Tryz.underlying45 rfl (lab_size B) ?_)
    | (go_at_call 22; refine (iright B HB.out.2.2 _).mono ?_; rintro e w1 ⟨rfl, hb1⟩; have H1 := Lib.hid hb1; clear hb1))
  have hB1 := below_call ((Below.refl V.heap.size V).alloc (Nat.le_refl _) _) H1.out
  have ks1 := hB1.size
  have kg1 := (hB1.block _ (lt_of_block HV.out.2.2.2.2.2.2.2.2)).trans HV.out.2.2.2.2.2.2.2.2
  have kn1 := (hB1.block _ (lt_of_block HV.out.2.2.2.2.2.2.2.1)).trans HV.out.2.2.2.2.2.2.2.1
  have HK := Lib.hid (And.intro hB1 (And.intro kg1 kn1))
  clear hB1 kg1 kn1 H1
  go_wp2
  rw [rounds_succ]
  go_wp2
  refine wp_loop_rounds 2 ?_
  rw [rounds_succ]
  go_upto_region 13 with (first
    | (refine wpList_load_row rfl 45 (.tmp 46) rfl g0 rfl 45 (labCells B) (0, 0) _ HK.out.2.1 Tryz.underlying45 rfl (lab_size B) ?_)
    | ((with_reducible refine at_store_law ?_); refine wpList_store_row rfl 45 _ _ rfl _ _ rfl rfl _ _ (by (repeat (first | assumption | exact heap_alloc_new _ _ | refine block_old ?_ | refine block_drew ?_ | apply setRow_heap | (refine (setRow_other _ _ _ _ ?_).trans ?_; omega)))) (lab_size B) (by unfold labCells; rfl) (lab_one B) ?_; (try simp only [World.setRow_alloc_new])))
  refine name_world fun U hU => ?_
  have uB : Below w1.heap.size w1 U := by rw [← hU]; go_grown
  have ux : U.heap[w1.heap.size]? = some (.cells (labCells B) 45 (0, 0)) := by rw [← hU]; exact heap_alloc_new _ _
  have lu := lt_of_block ux
  have un := (uB.block _ (lt_of_block HK.out.2.2)).trans HK.out.2.2
  have hl := map_look (P := Tryz.prog) (key := .string labS) false Tryz.underlying83 un Tryz.underlying9 trivial (zero_bool U) rfl
  have hu := map_new (P := Tryz.prog) (key := .string labS) (val := .bool true) Tryz.underlying83 un Tryz.underlying9 trivial rfl
  simp only [Bool.false_eq_true, if_false] at hl
  obtain ⟨X, hX⟩ : ∃ X, X = setBlock U nm (.map ((#[] : Array MapEntry).push ⟨.string labS, .bool true, 0⟩) (0 + 1)) := ⟨_, rfl⟩
  rw [← hX] at hu
  have uo : Only (· = nm) V X := by rw [hX]; exact (Only.of_below (HK.out.1.trans (uB.mono HK.out.1.size))).setBlk nm _ rfl
  have u0 := cell_in (v := .string labS) ux 0 (labGet0 B)
  have HU := Lib.hid uo
  have lux := uo.size
  clear hU hX uB ux un uo HK
  go_wp2
  rw [rounds_succ]
  go_upto_region 17 with fail
  obtain ⟨vB, vs, vp, vmo, vth, vat, vb, vnm, vg0⟩ := HV.out
  obtain ⟨hnm, hb, hat, hth, hmo, hp⟩ := HN.out
  have xs := HU.out.kept vs (by omega)
  have xp := HU.out.kept vp (by omega)
  have xmo := HU.out.kept vmo (by omega)
  have xth := HU.out.kept vth (by omega)
  have xat := HU.out.kept vat (by omega)
  have xb := HU.out.kept vb (by omega)
  have xg := HU.out.kept vg0 (by omega)
  have xB := vB.trans (HU.out.below (B := w.heap.size) vB.size (by intro k hk; omega))
  have HX := Lib.hid (And.intro xB (And.intro xs (And.intro xp (And.intro xmo (And.intro xth (And.intro xat xb))))))
  clear vB vs vp vmo vth vat vb vnm vg0 hnm hb hat hth hmo hp xB xs xmo xth xat xb hl hu u0 HU HV
  refine wp_region_facts [.val (.pointer (some ⟨p, 0, none⟩)), .val (.pointer (some ⟨p, 0, none⟩)), .val (.pointer (some ⟨p, 0, none⟩)), .val (.pointer (some ⟨p, 0, none⟩)), .val (.pointer (some ⟨w.heap.size, 0, none⟩)), .val (.pointer (some ⟨p, 0, none⟩)), .val (.pointer (some ⟨p, 0, none⟩)), .val (.pointer (some ⟨p, 1, none⟩)), .val (.pointer (some ⟨b, 0, none⟩)), .val (.slice (some ⟨g0, 0, none⟩) 1 1), .val (.bool false), .more (fun v w' => ∃ l st, v = .pointer (some ⟨l, 0, none⟩) ∧ w'.heap[l]? = some (.cells (loaderC w.heap.size b st (.slice none 0 0) (.slice none 0 0)).toArray 149 (0, 0)) ∧ w'.heap[st]? = some (.map #[⟨.string labS, .agg (labCells B), 0⟩] 1) ∧ X.heap.size ≤ l ∧ X.heap.size ≤ st) (fun v w' w'' hb h => by obtain ⟨l, st, h1, h2, h3, h4⟩ := h; exact ⟨l, st, h1, (hb.block _ (lt_of_block h2)).trans h2, (hb.block _ (lt_of_block h3)).trans h3, h4⟩), .val (.pointer (some ⟨p, 0, none⟩)), .val (.pointer (some ⟨p, 2, none⟩))] (by kernel_rfl) (by kernel_rfl) ?_ ?_
  · simp only [stepsAll, List.take, List.length]
    refine ⟨?_, ?_, ?_, ?_, ?_, ?_, ?_, ?_, ?_, ?_, ?_, ?_, ?_, ?_, ?_⟩
    all_goals first | trivial | (intro a wr hb hf hd)
    all_goals have hf0 : a.tmps[(0 : Nat)]?.getD undef = .slice (some ⟨g0, 0, none⟩) 1 1 := (hf 0 (by decide +kernel)).trans rfl
    all_goals have hf2 : a.tmps[(2 : Nat)]?.getD undef = .bool false := (hf 2 (by decide +kernel)).trans rfl
    all_goals have hf8 : a.tmps[(8 : Nat)]?.getD undef = .pointer (some ⟨p, 0, none⟩) := (hf 8 (by decide +kernel)).trans rfl
    · exact grow_tmp _ rfl ⟨hf8, fun h => by cases h⟩
    · exact grow_tmp _ rfl ⟨hf8, fun h => by cases h⟩
    · have h57 : a.tmps[(57 : Nat)]?.getD undef = .pointer (some ⟨p, 0, none⟩) := hd 1 (by simp) (by kernel_rfl)
      exact grow_value (v := .pointer (some ⟨p, 0, none⟩)) (by simp [execOp, h57, go_sem]) (Below.refl _ _) ⟨rfl, fun h => by cases h⟩
    · have h58 : a.tmps[(58 : Nat)]?.getD undef = .pointer (some ⟨p, 0, none⟩) := hd 2 (by simp) (by kernel_rfl)
      exact grow_value (v := .pointer (some ⟨p, 0, none⟩)) (by simp [execOp, h58, go_sem]) (Below.refl _ _) ⟨rfl, fun h => by cases h⟩
    · have h59 : a.tmps[(59 : Nat)]?.getD undef = .pointer (some ⟨p, 0, none⟩) := hd 3 (by simp) (by kernel_rfl)
      have hc := cell_l ((hb.block _ (lt_of_block xp)).trans xp) 0 (rfl)
      exact grow_value (v := .pointer (some ⟨w.heap.size, 0, none⟩)) (by simp [execOp, h59, hc, go_sem]) (Below.refl _ _) ⟨rfl, fun h => by cases h⟩
    · exact grow_tmp _ rfl ⟨hf8, fun h => by cases h⟩
    · have h61 : a.tmps[(61 : Nat)]?.getD undef = .pointer (some ⟨p, 0, none⟩) := hd 5 (by simp) (by kernel_rfl)
      exact grow_value (v := .pointer (some ⟨p, 0, none⟩)) (by simp [execOp, h61, go_sem]) (Below.refl _ _) ⟨rfl, fun h => by cases h⟩
    · have h62 : a.tmps[(62 : Nat)]?.getD undef = .pointer (some ⟨p, 0, none⟩) := hd 6 (by simp) (by kernel_rfl)
      exact grow_value (v := .pointer (some ⟨p, 1, none⟩)) (by simp [execOp, h62, go_sem]) (Below.refl _ _) ⟨rfl, fun h => by cases h⟩
    · have h63 : a.tmps[(63 : Nat)]?.getD undef = .pointer (some ⟨p, 1, none⟩) := hd 7 (by simp) (by kernel_rfl)
      have hc := cell_l ((hb.block _ (lt_of_block xp)).trans xp) 1 (rfl)
      exact grow_value (v := .pointer (some ⟨b, 0, none⟩)) (by simp [execOp, h63, hc, go_sem]) (Below.refl _ _) ⟨rfl, fun h => by cases h⟩
    · exact grow_tmp _ rfl ⟨hf0, fun h => by cases h⟩
    · exact grow_tmp _ rfl ⟨hf2, fun h => by cases h⟩
    · have h60 : a.tmps[(60 : Nat)]?.getD undef = .pointer (some ⟨w.heap.size, 0, none⟩) := hd 4 (by simp) (by kernel_rfl)
      have h64 : a.tmps[(64 : Nat)]?.getD undef = .pointer (some ⟨b, 0, none⟩) := hd 8 (by simp) (by kernel_rfl)
      have h65 : a.tmps[(65 : Nat)]?.getD undef = .slice (some ⟨g0, 0, none⟩) 1 1 := hd 9 (by simp) (by kernel_rfl)
      have h66 : a.tmps[(66 : Nat)]?.getD undef = .bool false := hd 10 (by simp) (by kernel_rfl)
      refine grow_call (f := 23) (args := #[.pointer (some ⟨w.heap.size, 0, none⟩), .pointer (some ⟨b, 0, none⟩), .slice (some ⟨g0, 0, none⟩) 1 1, .bool false]) (by simp [execOp, h60, h64, h65, h66, go_sem]) ?_
      refine (lnew w.heap.size b g0 B _ ((hb.block _ (lt_of_block xg)).trans xg)).mono ?_
      rintro e w3 ⟨rfl, hb3, hl3, hs3⟩
      exact ⟨_, rfl, hb3, ⟨_, _, rfl, hl3, hs3, by have := hb.size; omega, hb.size⟩, fun h => by cases h⟩
    · have h56 : a.tmps[(56 : Nat)]?.getD undef = .pointer (some ⟨p, 0, none⟩) := hd 0 (by simp) (by kernel_rfl)
      exact grow_value (v := .pointer (some ⟨p, 0, none⟩)) (by simp [execOp, h56, go_sem]) (Below.refl _ _) ⟨rfl, fun h => by cases h⟩
    · have h68 : a.tmps[(68 : Nat)]?.getD undef = .pointer (some ⟨p, 0, none⟩) := hd 12 (by simp) (by kernel_rfl)
      exact grow_value (v := .pointer (some ⟨p, 2, none⟩)) (by simp [execOp, h68, go_sem]) (Below.refl _ _) ⟨rfl, fun h => by cases h⟩
  · intro fv w2 hb2 hs hn hne
    have g56 : fv 56 = .pointer (some ⟨p, 0, none⟩) := hs 0 (by simp)
    have g57 : fv 57 = .pointer (some ⟨p, 0, none⟩) := hs 1 (by simp)
    have g58 : fv 58 = .pointer (some ⟨p, 0, none⟩) := hs 2 (by simp)
    have g59 : fv 59 = .pointer (some ⟨p, 0, none⟩) := hs 3 (by simp)
    have g60 : fv 60 = .pointer (some ⟨w.heap.size, 0, none⟩) := hs 4 (by simp)
    have g61 : fv 61 = .pointer (some ⟨p, 0, none⟩) := hs 5 (by simp)
    have g62 : fv 62 = .pointer (some ⟨p, 0, none⟩) := hs 6 (by simp)
    have g63 : fv 63 = .pointer (some ⟨p, 1, none⟩) := hs 7 (by simp)
    have g64 : fv 64 = .pointer (some ⟨b, 0, none⟩) := hs 8 (by simp)
    have g65 : fv 65 = .slice (some ⟨g0, 0, none⟩) 1 1 := hs 9 (by simp)
    have g66 : fv 66 = .bool false := hs 10 (by simp)
    have g68 : fv 68 = .pointer (some ⟨p, 0, none⟩) := hs 12 (by simp)
    have g69 : fv 69 = .pointer (some ⟨p, 2, none⟩) := hs 13 (by simp)
    obtain ⟨l, st, g67, yl, yst, ll, lst⟩ : ∃ l st, fv 67 = .pointer (some ⟨l, 0, none⟩) ∧ w2.heap[l]? = some (.cells (loaderC w.heap.size b st (.slice none 0 0) (.slice none 0 0)).toArray 149 (0, 0)) ∧ w2.heap[st]? = some (.map #[⟨.string labS, .agg (labCells B), 0⟩] 1) ∧ X.heap.size ≤ l ∧ X.heap.size ≤ st := hs 11 (by simp)
    rw [show (List.range (List.length _)).map (dstOf _) = [56, 57, 58, 59, 60, 61, 62, 63, 64, 65, 66, 67, 68, 69] from by kernel_rfl]
    simp only [actOf, List.foldl, Act.put, List.drop, List.length, g56, g57, g58, g59, g60, g61, g62, g63, g64, g65, g66, g68, g69, g67, List.setIfInBounds_toArray, List.set_cons_zero, List.set_cons_succ]
    clear hs hn hne g56 g57 g58 g59 g60 g61 g62 g63 g64 g65 g66 g68 g69 g67
    have hx := HX.out
    have lwX := hx.1.size
    have zp := (hb2.block _ (lt_of_block hx.2.2.1)).trans hx.2.2.1
    have c2 := cell_l zp 2 rfl; have f2 := free_in zp 2
    have lX2 := hb2.size
    have HZ := Lib.hid (And.intro hb2 (And.intro yl (And.intro yst zp)))
    clear hb2 yl yst zp hx xp xg
    go_upto_region 18 with fail
    refine name_world fun Y hY => ?_
    obtain ⟨hb2, yl, yst, zp⟩ := HZ.out
    obtain ⟨xB, xs, xp, xmo, xth, xat, xb⟩ := HX.out
    obtain ⟨hnm, hb, hat, hth, hmo, hp⟩ := HN.out
    have yv : Only (· = p) w2 Y := by rw [← hY]; exact (Only.refl (· = p) w2).setCell ⟨p, 2, none⟩ _ (.inl rfl)
    have yp : Y.heap[p]? = some (.cells (procC w.heap.size b l (.slice none 0 0)).toArray 81 (0, 0)) := by rw [← hY]; exact block_set zp 2 _
    have yB : Below w.heap.size w Y := ((Only.of_below_le (xB.trans (hb2.mono xB.size)) (fun k _ h => h) : Only (fun b => w.heap.size ≤ b) w w2).then yv (by intro k _ h; omega)).below (Nat.le_refl _) (fun k h => h)
    have yo := (Only.of_below (S := (· = p)) hb2).trans yv
    have ys := yo.kept xs (by omega)
    have ymo := yo.kept xmo (by omega)
    have yth := yo.kept xth (by omega)
    have yat := yo.kept xat (by omega)
    have yb := yo.kept xb (by omega)
    have yl' := yv.kept yl (by omega)
    have yst' := yv.kept yst (by omega)
    have ysp : SpaceAt Y w.heap.size (.slice none 0 0) [] := ⟨ys, World.ownsRow_nil _ _ _ _, by simp [BytesAt], by simp [BytesAt]⟩
    have yp' := yp
    unfold procC at yp'
    have d2 := cell_l yp' 2 rfl
    have lpY := lt_of_block yp
    have lyY := lt_of_block yl'
    have nmt : mo ≠ th := by omega
    have lY := yv.size
    have HY := Lib.hid (And.intro yB (And.intro yp (And.intro yl' (And.intro yst' (And.intro ysp (And.intro yb (And.intro ymo (And.intro yth (And.intro yat nmt)))))))))
    clear hb2 yl yst zp xB xs xp xmo xth xat xb yv yp yB yo ys ymo yth yat yb yl' yst' ysp yp' hY HZ HX c2 f2 hnm hb hat hth hmo hp nmt
    go_wp2_with fail
    refine (lstart l w.heap.size b st mo th at_ L B HB.out.1 HB.out.2.1 _ HY.out.2.2.1 HY.out.2.2.2.1 HY.out.2.2.2.2.1 HY.out.2.2.2.2.2.1 HY.out.2.2.2.2.2.2.1 HY.out.2.2.2.2.2.2.2.1 HY.out.2.2.2.2.2.2.2.2.2).mono ?_
    rintro e w3 ⟨rfl, ho3, gm, cm, gq, cq, g, cap, b1, b2, hL3⟩
    obtain ⟨yB, yp, yl, yst, ysp, yb, ymo, yth, yat, nmt⟩ := HY.out
    obtain ⟨hnm, hb, hat, hth, hmo, hp⟩ := HN.out
    have kp := ho3.kept yp (by rintro (h | h | h) <;> omega)
    have kst := ho3.kept yst (by have := ne_of_obj yst yl (by simp); have := ne_of_obj yst ysp.head (by simp); have := ne_of_obj yst yp (by simp); rintro (h | h | h) <;> omega)
    have kb := ho3.kept yb (by rintro (h | h | h) <;> omega)
    have kth := ho3.kept yth (by rintro (h | h | h) <;> omega)
    have kat := ho3.kept yat (by rintro (h | h | h) <;> omega)
    have kB : Below w.heap.size w w3 := ((Only.of_below_le yB (fun k _ h => h) : Only (fun b => w.heap.size ≤ b) w Y).then ho3 (by intro k _ h; omega)).below (Nat.le_refl _) (fun k h => h)
    have l3 := ho3.size
    have ngY := hL3.new0
    have lwY := yB.size
    have nat_ : at_ ≠ th := by omega
    have H3 := Lib.hid (And.intro kB (And.intro kp (And.intro kst (And.intro kb (And.intro kth (And.intro kat nat_))))))
    have HL3 := Lib.hid hL3
    clear ho3 hL3 yB yp yl yst ysp yb ymo yth yat nmt hnm hb hat hth hmo hp kp kst kb kth kat kB nat_ HY d2
    go_wp2_with fail
    refine (pspawn p w.heap.size b l mo th at_ g cap b1 b2 L B _ H3.out.2.1 HL3.out.space H3.out.2.2.2.1 HL3.out.known H3.out.2.2.2.2.1 H3.out.2.2.2.2.2.1 H3.out.2.2.2.2.2.2).mono ?_
    rintro e w4 ⟨rfl, ho4, gt, ct, g', cap', b3, hp4, hown4, hth4, hsp4, lg4, lb3⟩
    obtain ⟨kB, kp, kst, kb, kth, kat, nat_⟩ := H3.out
    obtain ⟨hnm, hb, hat, hth, hmo, hp⟩ := HN.out
    have hL3 := HL3.out
    obtain ⟨_, lg3, curg, hg3⟩ := ownsRow_lt hL3.space.row
    obtain ⟨lgm3, lgm3', curm, hgm3⟩ := ownsRow_lt hL3.mods
    obtain ⟨lgq3, lgq3', curq, hgq3⟩ := ownsRow_lt hL3.order
    have nlg := block_ne hL3.head hg3 (by decide)
    have nmg := block_ne hgm3 hg3 (by decide)
    have nqg := block_ne hgq3 hg3 (by decide)
    have nsg := ne_of_obj kst hg3 (by simp)
    have nsp := ne_of_obj kst kp (by simp)
    have nss := ne_of_obj kst hL3.space.head (by simp)
    have nsh := ne_of_obj kst hL3.head (by simp)
    have nst : st ≠ th := by omega
    have qst := ho4.kept kst (by rintro (h | h | h | h) <;> omega)
    have ql := ho4.kept hL3.head (by rintro (h | h | h | h) <;> omega)
    have qb := ho4.kept kb (by rintro (h | h | h | h) <;> omega)
    have qat := ho4.kept kat (by rintro (h | h | h | h) <;> omega)
    have qmo := ho4.kept hL3.known (by rintro (h | h | h | h) <;> omega)
    have qm := ownsRow_kept hL3.mods ho4 (by rintro (h | h | h | h) <;> omega)
    have qq := ownsRow_kept hL3.order ho4 (by rintro (h | h | h | h) <;> omega)
    have qB : Below w.heap.size w w4 := ((Only.of_below_le kB (fun k _ h => h) : Only (fun b => w.heap.size ≤ b) w w3).then ho4 (by intro k _ h; omega)).below (Nat.le_refl _) (fun k h => h)
    have qp' := hp4
    unfold procC at qp'
    have d2 := cell_l qp' 2 rfl; have d3 := cell_l qp' 3 rfl
    have l4 := ho4.size
    have lgt := (ownsRow_lt hown4).1
    have lgt4 := (ownsRow_lt hown4).2.1
    have lp4 := lt_of_block hp4
    have H4 := Lib.hid (And.intro qB (And.intro hp4 (And.intro ql (And.intro qm (And.intro qq (And.intro qb (And.intro qmo (And.intro hth4 (And.intro qat (And.intro qst (And.intro hown4 hsp4)))))))))))
    have nb1 := hL3.new1
    have nb2 := hL3.new2
    have HFR := Lib.hid (show ∀ x, spaceFoot w.heap.size (.slice (some ⟨g', 0, none⟩) 3 cap') [codeP L b1, dataP L b2, stackP b3] x → w.heap.size ≤ x from by
      rintro x (rfl | h | ⟨q, hq, rfl⟩)
      · exact Nat.le_refl _
      · have h' : g' = x := by simpa [Value.ownBlock] using h
        rcases lg4 with h4 | h4 <;> omega
      · simp only [List.mem_cons, List.not_mem_nil, or_false] at hq
        rcases hq with rfl | rfl | rfl
        · show w.heap.size ≤ b1; omega
        · show w.heap.size ≤ b2; omega
        · show w.heap.size ≤ b3; omega)
    clear nb1 nb2 lwY
    clear kB kp kst kb kth kat nat_ hnm hb hat hth hmo hp hL3 lg3 hg3 lgm3 lgm3' hgm3 lgq3 lgq3' hgq3 nlg nmg nqg nsg nsp nss nsh nst qst ql qb qat qmo qm qq qB qp' hp4 hown4 hth4 hsp4 ho4 lg4 H3 HL3
    go_upto_region 26 with (first
      | (go_at_call 26; refine (lmods l w.heap.size b st gm cm (.slice (some ⟨gq, 0, none⟩) 1 cq) B _ H4.out.2.2.1 (ownsRow_lower H4.out.2.2.2.1 (Nat.zero_le _))).mono ?_; rintro e w5 ⟨hb5, gx, cx, rfl, hown5⟩
         have d3' := (hb5.cell (p := ⟨p, 3, none⟩) lp4).trans d3
         have lgx := (ownsRow_lt hown5).2.1
         have lp5 := Nat.lt_of_lt_of_le lp4 hb5.size
         have H5 := Lib.hid (And.intro hb5 hown5); clear hb5 hown5)
      | (refine wpList_load_mid rfl 91 (.tmp 94) rfl gx 0 rfl (modC B 512 1) _ (row_range H5.out.2) Tryz.underlying91 rfl (mod_len B 512 1) ?_)
      | ((with_reducible refine at_store_law ?_); refine wpList_store_row rfl 91 _ _ rfl _ _ rfl rfl _ _ (by (repeat (first | assumption | exact heap_alloc_new _ _ | refine block_old ?_ | refine block_drew ?_ | apply setRow_heap | (refine (setRow_other _ _ _ _ ?_).trans ?_; omega)))) (mod_size B 512 1) (by unfold modC labCells; rfl) (mod_all B 512 1) ?_; (try simp only [World.setRow_alloc_new])))
    obtain ⟨hb5, hown5⟩ := H5.out
    refine name_world fun Z hZ => ?_
    have z5 : Below w5.heap.size w5 Z := by rw [← hZ]; go_grown
    have zx : Z.heap[w5.heap.size]? = some (.cells (modC B 512 1).toArray 91 (0, 0)) := by rw [← hZ]; exact heap_alloc_new _ _
    have zB : Below w4.heap.size w4 Z := hb5.trans (z5.mono hb5.size)
    have zt := ownsRow_below' H4.out.2.2.2.2.2.2.2.2.2.2.1 zB
    have lz5 := hb5.size
    have lzx := lt_of_block zx
    have HZ := Lib.hid (And.intro zB zx)
    clear hb5 hown5 z5 zB hZ H5 d2 d3 d3'
    refine wp_region_facts [.val (.pointer (some ⟨gt, 0, none⟩)), .val (.pointer (some ⟨gt, 0, none⟩)), .val (.pointer (some ⟨gt, 0, none⟩)), .val (.pointer (some ⟨gt, 19, none⟩)), .val (.pointer (some ⟨gt, 19, none⟩)), .val (.int .i64 1280), .val (.pointer (some ⟨gt, 0, none⟩)), .val (.pointer (some ⟨gt, 0, none⟩)), .val (.pointer (some ⟨gt, 19, none⟩)), .val (.pointer (some ⟨gt, 20, none⟩)), .val (.int .i64 1024), .val (.int .i64 2304), .val (.pointer (some ⟨gt, 0, none⟩)), .val (.pointer (some ⟨gt, 0, none⟩)), .val (.pointer (some ⟨gt, 0, none⟩)), .val (.pointer (some ⟨gt, 15, none⟩))] (by kernel_rfl) (by kernel_rfl) ?_ ?_
    · simp only [stepsAll, List.take, List.length]
      refine ⟨?_, ?_, ?_, ?_, ?_, ?_, ?_, ?_, ?_, ?_, ?_, ?_, ?_, ?_, ?_, ?_, ?_⟩
      all_goals first | trivial | (intro a wr hb hf hd)
      all_goals have hf19 : a.tmps[(19 : Nat)]?.getD undef = .pointer (some ⟨gt, 0, none⟩) := (hf 19 (by decide +kernel)).trans rfl
      · exact grow_tmp _ rfl ⟨hf19, fun h => by cases h⟩
      · exact grow_tmp _ rfl ⟨hf19, fun h => by cases h⟩
      · have h102 : a.tmps[(102 : Nat)]?.getD undef = .pointer (some ⟨gt, 0, none⟩) := hd 1 (by simp) (by kernel_rfl)
        exact grow_value (v := .pointer (some ⟨gt, 0, none⟩)) (by simp [execOp, h102, go_sem]) (Below.refl _ _) ⟨rfl, fun h => by cases h⟩
      · have h103 : a.tmps[(103 : Nat)]?.getD undef = .pointer (some ⟨gt, 0, none⟩) := hd 2 (by simp) (by kernel_rfl)
        exact grow_value (v := .pointer (some ⟨gt, 19, none⟩)) (by simp [execOp, h103, go_sem]) (Below.refl _ _) ⟨rfl, fun h => by cases h⟩
      · have h104 : a.tmps[(104 : Nat)]?.getD undef = .pointer (some ⟨gt, 19, none⟩) := hd 3 (by simp) (by kernel_rfl)
        exact grow_value (v := .pointer (some ⟨gt, 19, none⟩)) (by simp [execOp, h104, go_sem]) (Below.refl _ _) ⟨rfl, fun h => by cases h⟩
      · have h105 : a.tmps[(105 : Nat)]?.getD undef = .pointer (some ⟨gt, 19, none⟩) := hd 4 (by simp) (by kernel_rfl)
        have hc := (row_cell (ownsRow_below' zt hb) 19 (rfl)).1
        exact grow_value (v := .int .i64 1280) (by simp [execOp, h105, hc, go_sem]) (Below.refl _ _) ⟨rfl, fun h => by cases h⟩
      · exact grow_tmp _ rfl ⟨hf19, fun h => by cases h⟩
      · have h107 : a.tmps[(107 : Nat)]?.getD undef = .pointer (some ⟨gt, 0, none⟩) := hd 6 (by simp) (by kernel_rfl)
        exact grow_value (v := .pointer (some ⟨gt, 0, none⟩)) (by simp [execOp, h107, go_sem]) (Below.refl _ _) ⟨rfl, fun h => by cases h⟩
      · have h108 : a.tmps[(108 : Nat)]?.getD undef = .pointer (some ⟨gt, 0, none⟩) := hd 7 (by simp) (by kernel_rfl)
        exact grow_value (v := .pointer (some ⟨gt, 19, none⟩)) (by simp [execOp, h108, go_sem]) (Below.refl _ _) ⟨rfl, fun h => by cases h⟩
      · have h109 : a.tmps[(109 : Nat)]?.getD undef = .pointer (some ⟨gt, 19, none⟩) := hd 8 (by simp) (by kernel_rfl)
        exact grow_value (v := .pointer (some ⟨gt, 20, none⟩)) (by simp [execOp, h109, go_sem]) (Below.refl _ _) ⟨rfl, fun h => by cases h⟩
      · have h110 : a.tmps[(110 : Nat)]?.getD undef = .pointer (some ⟨gt, 20, none⟩) := hd 9 (by simp) (by kernel_rfl)
        have hc := (row_cell (ownsRow_below' zt hb) 20 (rfl)).1
        exact grow_value (v := .int .i64 1024) (by simp [execOp, h110, hc, go_sem]) (Below.refl _ _) ⟨rfl, fun h => by cases h⟩
      · have h106 : a.tmps[(106 : Nat)]?.getD undef = .int .i64 1280 := hd 5 (by simp) (by kernel_rfl)
        have h111 : a.tmps[(111 : Nat)]?.getD undef = .int .i64 1024 := hd 10 (by simp) (by kernel_rfl)
        exact grow_value (v := .int .i64 2304) (by simp [execOp, h106, h111, go_sem]; try rfl) (Below.refl _ _) ⟨rfl, fun h => by cases h⟩
      · have h101 : a.tmps[(101 : Nat)]?.getD undef = .pointer (some ⟨gt, 0, none⟩) := hd 0 (by simp) (by kernel_rfl)
        exact grow_value (v := .pointer (some ⟨gt, 0, none⟩)) (by simp [execOp, h101, go_sem]) (Below.refl _ _) ⟨rfl, fun h => by cases h⟩
      · have h113 : a.tmps[(113 : Nat)]?.getD undef = .pointer (some ⟨gt, 0, none⟩) := hd 12 (by simp) (by kernel_rfl)
        exact grow_value (v := .pointer (some ⟨gt, 0, none⟩)) (by simp [execOp, h113, go_sem]) (Below.refl _ _) ⟨rfl, fun h => by cases h⟩
      · have h114 : a.tmps[(114 : Nat)]?.getD undef = .pointer (some ⟨gt, 0, none⟩) := hd 13 (by simp) (by kernel_rfl)
        exact grow_value (v := .pointer (some ⟨gt, 0, none⟩)) (by simp [execOp, h114, go_sem]) (Below.refl _ _) ⟨rfl, fun h => by cases h⟩
      · have h115 : a.tmps[(115 : Nat)]?.getD undef = .pointer (some ⟨gt, 0, none⟩) := hd 14 (by simp) (by kernel_rfl)
        exact grow_value (v := .pointer (some ⟨gt, 15, none⟩)) (by simp [execOp, h115, go_sem]) (Below.refl _ _) ⟨rfl, fun h => by cases h⟩
    · intro f26 w6 hb6 hs hn hne
      have g101 : f26 101 = .pointer (some ⟨gt, 0, none⟩) := hs 0 (by simp)
      have g102 : f26 102 = .pointer (some ⟨gt, 0, none⟩) := hs 1 (by simp)
      have g103 : f26 103 = .pointer (some ⟨gt, 0, none⟩) := hs 2 (by simp)
      have g104 : f26 104 = .pointer (some ⟨gt, 19, none⟩) := hs 3 (by simp)
      have g105 : f26 105 = .pointer (some ⟨gt, 19, none⟩) := hs 4 (by simp)
      have g106 : f26 106 = .int .i64 1280 := hs 5 (by simp)
      have g107 : f26 107 = .pointer (some ⟨gt, 0, none⟩) := hs 6 (by simp)
      have g108 : f26 108 = .pointer (some ⟨gt, 0, none⟩) := hs 7 (by simp)
      have g109 : f26 109 = .pointer (some ⟨gt, 19, none⟩) := hs 8 (by simp)
      have g110 : f26 110 = .pointer (some ⟨gt, 20, none⟩) := hs 9 (by simp)
      have g111 : f26 111 = .int .i64 1024 := hs 10 (by simp)
      have g112 : f26 112 = .int .i64 2304 := hs 11 (by simp)
      have g113 : f26 113 = .pointer (some ⟨gt, 0, none⟩) := hs 12 (by simp)
      have g114 : f26 114 = .pointer (some ⟨gt, 0, none⟩) := hs 13 (by simp)
      have g115 : f26 115 = .pointer (some ⟨gt, 0, none⟩) := hs 14 (by simp)
      have g116 : f26 116 = .pointer (some ⟨gt, 15, none⟩) := hs 15 (by simp)
      rw [show (List.range (List.length _)).map (dstOf _) = [101, 102, 103, 104, 105, 106, 107, 108, 109, 110, 111, 112, 113, 114, 115, 116] from by kernel_rfl]
      simp only [actOf, List.foldl, Act.put, List.drop, List.length, g101, g102, g103, g104, g105, g106, g107, g108, g109, g110, g111, g112, g113, g114, g115, g116, List.setIfInBounds_toArray, List.set_cons_zero, List.set_cons_succ]
      clear hs hn hne g101 g102 g103 g104 g105 g106 g107 g108 g109 g110 g111 g112 g113 g114 g115 g116
      have yt := ownsRow_below' zt hb6
      obtain ⟨c15, f15⟩ := row_cell yt 15 rfl
      have yx := (hb6.block _ (lt_of_block zx)).trans zx
      have lx6 := lt_of_block yx
      have lt6 := (ownsRow_lt yt).2.1
      have ngx : gt ≠ w5.heap.size := by omega
      have H6 := Lib.hid (And.intro hb6 (And.intro yt yx))
      clear yt yx hb6 zt zx
      go_upto_region 27 with fail
      refine name_world fun T hT => ?_
      obtain ⟨hb6, yt, yx⟩ := H6.out
      have tq : Only (· = gt) w6 T := by rw [← hT]; exact (Only.refl (· = gt) w6).setCell ⟨gt, 15, none⟩ _ (.inl rfl)
      have tt : T.ownsRow w3.heap.size 100 23 (.slice (some ⟨gt, 0, none⟩) 1 ct) 1 (threadC 2304 (.slice none 0 0)) := by rw [← hT]; exact ownsRow_setAt yt 15 _
      have tx := tq.kept yx (fun h => ngx h.symm)
      have HT := Lib.hid (And.intro hb6 (And.intro tq tt))
      clear hb6 yt yx tq hT H6 c15 f15
      refine wp_region_facts [.val (.pointer (some ⟨gt, 0, none⟩)), .val (.slice none 0 0), .val (.slice none 0 0), .val (.pointer (some ⟨w5.heap.size, 26, none⟩)), .val (.int .i64 512), .val (.pointer (some ⟨w5.heap.size, 0, none⟩)), .val (.pointer (some ⟨w5.heap.size, 16, none⟩)), .val (.int .i64 0), .val (.int .i64 512), .blk (sl 1) (.cells [.int .i64 512].toArray 3 (0, 0)), .more (fun v w' => ∃ g cap, v = .slice (some ⟨g, 0, none⟩) 1 cap ∧ w'.ownsRow T.heap.size 3 1 (.slice (some ⟨g, 0, none⟩) 1 cap) 1 [.int .i64 512]) (fun v w' w'' hb h => by obtain ⟨g, cap, h1, h3⟩ := h; exact ⟨g, cap, h1, ownsRow_below' h3 hb⟩), .val (.pointer (some ⟨gt, 0, none⟩)), .val (.pointer (some ⟨gt, 21, none⟩))] (by kernel_rfl) (by kernel_rfl) ?_ ?_
      · simp only [stepsAll, List.take, List.length]
        refine ⟨?_, ?_, ?_, ?_, ?_, ?_, ?_, ?_, ?_, ?_, ?_, ?_, ?_, ?_⟩
        all_goals first | trivial | (intro a wr hb hf hd)
        all_goals have hf14 : a.tmps[(14 : Nat)]?.getD undef = .slice none 0 0 := (hf 14 (by decide +kernel)).trans rfl
        all_goals have hf18 : a.tmps[(18 : Nat)]?.getD undef = .pointer (some ⟨w5.heap.size, 0, none⟩) := (hf 18 (by decide +kernel)).trans rfl
        all_goals have hf19 : a.tmps[(19 : Nat)]?.getD undef = .pointer (some ⟨gt, 0, none⟩) := (hf 19 (by decide +kernel)).trans rfl
        · exact grow_tmp _ rfl ⟨hf19, fun h => by cases h⟩
        · exact grow_tmp _ rfl ⟨hf14, fun h => by cases h⟩
        · have h118 : a.tmps[(118 : Nat)]?.getD undef = .slice none 0 0 := hd 1 (by simp) (by kernel_rfl)
          refine grow_call (f := 27) (args := #[.slice none 0 0]) (by simp [execOp, h118, go_sem]) ?_
          refine (clip_ints_nil _).mono ?_
          rintro e w3 ⟨rfl, rfl⟩
          exact ⟨_, rfl, Below.refl _ _, rfl, fun h => by cases h⟩
        · exact grow_value (v := .pointer (some ⟨w5.heap.size, 26, none⟩)) (by simp [execOp, hf18, go_sem]) (Below.refl _ _) ⟨rfl, fun h => by cases h⟩
        · have h120 : a.tmps[(120 : Nat)]?.getD undef = .pointer (some ⟨w5.heap.size, 26, none⟩) := hd 3 (by simp) (by kernel_rfl)
          have hc := cell_l ((hb.block _ (lt_of_block tx)).trans tx) 26 (modC_get26 B 512 1)
          exact grow_value (v := .int .i64 512) (by simp [execOp, h120, hc, go_sem]) (Below.refl _ _) ⟨rfl, fun h => by cases h⟩
        · exact grow_value (v := .pointer (some ⟨w5.heap.size, 0, none⟩)) (by simp [execOp, hf18, go_sem]) (Below.refl _ _) ⟨rfl, fun h => by cases h⟩
        · have h122 : a.tmps[(122 : Nat)]?.getD undef = .pointer (some ⟨w5.heap.size, 0, none⟩) := hd 5 (by simp) (by kernel_rfl)
          exact grow_value (v := .pointer (some ⟨w5.heap.size, 16, none⟩)) (by simp [execOp, h122, go_sem]) (Below.refl _ _) ⟨rfl, fun h => by cases h⟩
        · have h123 : a.tmps[(123 : Nat)]?.getD undef = .pointer (some ⟨w5.heap.size, 16, none⟩) := hd 6 (by simp) (by kernel_rfl)
          have hc := cell_l ((hb.block _ (lt_of_block tx)).trans tx) 16 (modC_get16 B 512 1)
          exact grow_value (v := .int .i64 0) (by simp [execOp, h123, hc, go_sem]) (Below.refl _ _) ⟨rfl, fun h => by cases h⟩
        · have h121 : a.tmps[(121 : Nat)]?.getD undef = .int .i64 512 := hd 4 (by simp) (by kernel_rfl)
          have h124 : a.tmps[(124 : Nat)]?.getD undef = .int .i64 0 := hd 7 (by simp) (by kernel_rfl)
          exact grow_value (v := .int .i64 512) (by simp [execOp, h121, h124, go_sem]; try rfl) (Below.refl _ _) ⟨rfl, fun h => by cases h⟩
        · have h125 : a.tmps[(125 : Nat)]?.getD undef = .int .i64 512 := hd 8 (by simp) (by kernel_rfl)
          exact grow_value (v := sl 1 wr.heap.size) (by simp [execOp, h125, sl, go_sem]) ((Below.refl _ _).alloc (Nat.le_refl _) (.cells [.int .i64 512].toArray 3)) ⟨⟨_, rfl, heap_alloc_new _ _⟩, fun _ b hb => new_slice hb⟩
        · have h119 : a.tmps[(119 : Nat)]?.getD undef = .slice none 0 0 := hd 2 (by simp) (by kernel_rfl)
          obtain ⟨q, h126, hq⟩ : ∃ q, a.tmps[(126 : Nat)]?.getD undef = sl 1 q ∧ wr.heap[q]? = some (.cells [.int .i64 512].toArray 3 (0, 0)) := hd 9 (by simp) (by kernel_rfl)
          refine grow_append_nil 119 126 31 3 (.int .i64 0) 1 8 rfl Tryz.underlying31 infoc_ints rfl (by omega) q 1 [.int .i64 512] h119 h126 hq rfl (by simp [Value.oneCell']) (by omega) ?_
          intro cap w' ho hb'
          exact ⟨⟨_, cap, rfl, ownsRow_lower ho hb.size⟩, fun h => by cases h⟩
        · have h117 : a.tmps[(117 : Nat)]?.getD undef = .pointer (some ⟨gt, 0, none⟩) := hd 0 (by simp) (by kernel_rfl)
          exact grow_value (v := .pointer (some ⟨gt, 0, none⟩)) (by simp [execOp, h117, go_sem]) (Below.refl _ _) ⟨rfl, fun h => by cases h⟩
        · have h128 : a.tmps[(128 : Nat)]?.getD undef = .pointer (some ⟨gt, 0, none⟩) := hd 11 (by simp) (by kernel_rfl)
          exact grow_value (v := .pointer (some ⟨gt, 21, none⟩)) (by simp [execOp, h128, go_sem]) (Below.refl _ _) ⟨rfl, fun h => by cases h⟩
      · intro f27 w7 hb7 hs hn hne
        have g117 : f27 117 = .pointer (some ⟨gt, 0, none⟩) := hs 0 (by simp)
        have g118 : f27 118 = .slice none 0 0 := hs 1 (by simp)
        have g119 : f27 119 = .slice none 0 0 := hs 2 (by simp)
        have g120 : f27 120 = .pointer (some ⟨w5.heap.size, 26, none⟩) := hs 3 (by simp)
        have g121 : f27 121 = .int .i64 512 := hs 4 (by simp)
        have g122 : f27 122 = .pointer (some ⟨w5.heap.size, 0, none⟩) := hs 5 (by simp)
        have g123 : f27 123 = .pointer (some ⟨w5.heap.size, 16, none⟩) := hs 6 (by simp)
        have g124 : f27 124 = .int .i64 0 := hs 7 (by simp)
        have g125 : f27 125 = .int .i64 512 := hs 8 (by simp)
        have g128 : f27 128 = .pointer (some ⟨gt, 0, none⟩) := hs 11 (by simp)
        have g129 : f27 129 = .pointer (some ⟨gt, 21, none⟩) := hs 12 (by simp)
        obtain ⟨gc, cc, g127, hownc⟩ : ∃ g cap, f27 127 = .slice (some ⟨g, 0, none⟩) 1 cap ∧ w7.ownsRow T.heap.size 3 1 (.slice (some ⟨g, 0, none⟩) 1 cap) 1 [.int .i64 512] := hs 10 (by simp)
        rw [show (List.range (List.length _)).map (dstOf _) = [117, 118, 119, 120, 121, 122, 123, 124, 125, 126, 127, 128, 129] from by kernel_rfl]
        simp only [actOf, List.foldl, Act.put, List.drop, List.length, g117, g118, g119, g120, g121, g122, g123, g124, g125, g128, g129, g127, List.setIfInBounds_toArray, List.set_cons_zero, List.set_cons_succ]
        clear hs hn hne g117 g118 g119 g120 g121 g122 g123 g124 g125 g128 g129 g127
        have yt := ownsRow_below' HT.out.2.2 hb7
        obtain ⟨c21, f21⟩ := row_cell yt 21 rfl
        have lgc := (ownsRow_lt hownc).1
        have lt7 := (ownsRow_lt yt).2.1
        have H7 := Lib.hid (And.intro hb7 (And.intro yt hownc))
        clear hb7 yt hownc tx
        go_wp2
        go_ret2
        obtain ⟨zB, zx⟩ := HZ.out
        obtain ⟨hb6, tq, tt⟩ := HT.out
        obtain ⟨hb7, yt, hownc⟩ := H7.out
        obtain ⟨qB, qp, ql, qm, qq, qb, qmo, qth, qat, qst, qown, qsp⟩ := H4.out
        obtain ⟨_, _, curt, hct⟩ := ownsRow_lt qown
        obtain ⟨_, _, curm, hcm⟩ := ownsRow_lt qm
        obtain ⟨_, _, curq, hcq⟩ := ownsRow_lt qq
        have hs : Only (· = gt) w7 (w7.setCell ⟨gt, 21, none⟩ (.slice (some ⟨gc, 0, none⟩) 1 cc)) := (Only.refl (· = gt) _).setCell _ _ (.inl rfl)
        have a1 : Only (· = gt) w4 (w7.setCell ⟨gt, 21, none⟩ (.slice (some ⟨gc, 0, none⟩) 1 cc)) := (((Only.of_below (zB.trans (hb6.mono zB.size))).trans tq).call hb7).trans hs
        have ngc : ¬ gc = gt := by have := tq.size; omega
        have tt' := ownsRow_setAt yt 21 (.slice (some ⟨gc, 0, none⟩) 1 cc)
        have lw4 := qB.size
        have lw3 : w.heap.size ≤ gt := by have := (ownsRow_lt tt).1; omega
        refine ⟨⟨p, w.heap.size, b, l, st, mo, th, at_, gm, cm, gq, cq, gt, ct, gc, cc, g', cap', b1, b2, b3⟩, rfl, ?_, ?_, ?_, HFR.out, HPN.out⟩
        · exact ((Only.of_below_le qB (fun k _ h => h) : Only (fun b => w.heap.size ≤ b) w w4).then a1 (by intro k _ h; omega)).below (Nat.le_refl _) (fun k h => h)
        · exact ⟨a1.kept qp (block_ne qp hct (by decide)), a1.kept ql (block_ne ql hct (by decide)), ownsRow_kept (ownsRow_lower qm (Nat.zero_le _)) a1 (block_ne hcm hct (by decide)), ownsRow_kept (ownsRow_lower qq (Nat.zero_le _)) a1 (block_ne hcq hct (by decide)),
            a1.kept qb (block_ne qb hct (by decide)), a1.kept qmo (ne_of_obj qmo hct (by simp)), a1.kept qth (ne_of_obj qth hct (by simp)), a1.kept qat (ne_of_obj qat hct (by simp)), a1.kept qst (ne_of_obj qst hct (by simp)),
            ownsRow_lower tt' (Nat.zero_le _), ownsRow_kept (ownsRow_lower hownc (Nat.zero_le _)) hs ngc⟩
        · exact qsp.kept a1 (by rintro k hk rfl; exact qsp.notCells hct (by decide) (by decide) (by decide) hk)
end Go.Proofs.YtkbilipgidcgeaaGreatDoor.Tiny
