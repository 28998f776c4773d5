/- linchpinlaw38.code. hold: each, its function code. hold.code, up to its loops. hold.code: to its loops. -/
import Derived.Laws.IdiomStrings
import Derived.Test.YtkbilipgidcgeaaGreatDoorH35
import Derived.Test.YtkbilipgidcgeaaGreatDoorH37
import Derived.Test.YtkbilipgidcgeaaGreatDoorH32
import Derived.Test.YtkbilipgidcgeaaGreatDoorH34
set_option linter.unusedVariables false
set_option linter.unusedSimpArgs false
namespace Go.Proofs.YtkbilipgidcgeaaGreatDoor.Tiny
open Go.RowKit
attribute [local go_sem] ext_cell ext_frozen

set_option maxRecDepth 100000 in
set_option maxHeartbeats 4000000 in
theorem code_any (v : Value) (l : List InsR) (w : World) (hf : Forms w) (hv : InsV w.heap.size w v l) (hl : l.length ≤ 17592186044416) :
    Calls Tryz.prog 15 #[v] w fun e w' => Below w.heap.size w w' ∧ e = .returned (.string ⟨(l.flatMap encW).toArray⟩) := by
  rcases hv with ⟨rfl, rfl⟩ | ⟨g, o, cap, rfl, hg, hc⟩
  · go_enter Tryz.func15, Tryz.ntmps15
    go_wp2
    refine wp_loop_rounds 1 ?_
    rw [rounds_succ]
    go_wp2
    go_ret
    exact ⟨Below.refl _ _, rfl⟩
  · have HH := Lib.hid (And.intro hf hc)
    clear hf hc
    go_enter Tryz.func15, Tryz.ntmps15
    go_wp2_with fail
    go_loopw [3, 4] (fun s i wr => ∃ k : Nat, k ≤ l.length ∧ i = .int .i64 k ∧ s = .string ⟨((l.take k).flatMap encW).toArray⟩ ∧ Below w.heap.size w wr) (fun _ i _ => l.length - (vI i).toNat)
    case atStart => exact ⟨0, Nat.zero_le _, rfl, rfl, Below.refl _ _⟩
    case round =>
      obtain ⟨k, hk, rfl, rfl, hb⟩ := hrel
      have HB := Lib.hid hb
      clear hb
      obtain ⟨A, hA⟩ : ∃ A, A = (⟨((l.take k).flatMap encW).toArray⟩ : ByteArray) := ⟨_, rfl⟩
      rw [← hA]
      have hAs : A.size ≤ 8 * k := by
        rw [hA]
        have := encs_le (l.take k)
        rw [List.length_take, Nat.min_eq_left hk] at this
        exact this
      by_cases hlt : k < l.length
      · have hrg := ins_range (fun j u hu => (HB.out.cell (p := ⟨g, o + j, none⟩) hg).trans (HH.out.2 j u hu)) k hlt
        have htk : (l.take (k + 1)).flatMap encW = (l.take k).flatMap encW ++ encW l[k] := by
          rw [List.take_succ_eq_append_getElem hlt, List.flatMap_append]; simp
        obtain ⟨x, hx⟩ : ∃ x, x = l[k] := ⟨_, rfl⟩
        rw [← hx] at hrg htk
        obtain ⟨Bx, hBx⟩ : ∃ Bx, Bx = (⟨(encW x).toArray⟩ : ByteArray) := ⟨_, rfl⟩
        have hBs : Bx.size ≤ 8 := by
          rw [hBx]; exact encW_length x
        have hsz : ¬ 9223372036854775807 < A.size + Bx.size := by omega
        have hcall : ∀ W : World, Forms W → ∃ rb, Calls Tryz.prog 28 #[insV x.op x.a x.b x.c x.imm] W fun e w' => Below W.heap.size W w' ∧ e = .returned (.tuple #[.string Bx, .bool rb]) := fun W hW => by
          by_cases hr : x.Right
          · rw [hBx, encW_right hr]
            exact ⟨true, encode_right x.op x.a x.b x.c x.imm W hW hr⟩
          · rw [hBx, encW_wrong hr]
            exact ⟨false, encode_wrong x.op x.a x.b x.c x.imm W hW hr⟩
        have HK := Lib.hid (And.intro hA (And.intro hBx (And.intro htk hcall)))
        have HR := Lib.hid hrg
        clear hA hBx hAs hBs htk hcall hx hrg
        go_wp2_with (first
          | (refine wpList_load_mid rfl 67 (.tmp 16) rfl g (o + k * 5) rfl [.int .i64 x.op, .int .i64 x.a, .int .i64 x.b, .int .i64 x.c, .int .i64 x.imm] _ HR.out Tryz.underlying67 rfl (ins_len _ _ _ _ _) ?_)
          | (go_at_call 28; obtain ⟨rb, hrb⟩ := HK.out.2.2.2 _ (HH.out.1.below HB.out); refine hrb.mono ?_; clear hrb; rintro e w2 ⟨hb2, rfl⟩; have H2 := Lib.hid hb2; clear hb2))
        go_roundw
        case rel =>
          refine ⟨k + 1, by omega, by go_num, ?_, HB.out.trans (H2.out.mono HB.out.size)⟩
          rw [HK.out.2.2.1, HK.out.1, HK.out.2.1]
          congr 1
          all_goals exact append_str _ _
        case measure => simp [vI]; omega
      · obtain rfl : k = l.length := by omega
        have HA := Lib.hid hA
        clear hA hAs
        go_wp2
        go_ret
        rw [HA.out, List.take_length]
        exact ⟨HB.out, rfl⟩
end Go.Proofs.YtkbilipgidcgeaaGreatDoor.Tiny

namespace Go.Proofs.YtkbilipgidcgeaaGreatDoor.Tiny
open Go.RowKit Go.ChangeMaps
attribute [local go_sem] ext_cell ext_frozen
attribute [local irreducible] labCells modC threadC

set_option maxRecDepth 100000 in
set_option maxHeartbeats 4000000 in
theorem each_code (B : ByteArray) (n : PN) (sv : Value) (g cap q0 q1 q2 q3 : Nat) (l : List Str) (ps : List Part) (x : VN) (ad m : Int) (Inv : Nat → World → Prop) (w : World) (h0 : 0 ≤ ad) (h1 : ad % 8 = 0) (h2 : 0 < m) (h3 : ad + m ≤ 1000000) (hps : ∀ p ∈ ps, p.at_ + p.size ≤ 1000000) (hfew : ps.length ≤ 1000)
    (hview : ∀ k W, Inv k W → ViewAt B W x n.p l ps ∧ Ctx B W n sv g cap l ps) (hbelow : ∀ k W W', Inv k W → Below W.heap.size W W' → Inv k W') (hinv : Inv 0 w)
    (hstep : ∀ k (hk : k < (hitsL ps ad m).length) W, Inv k W → Calls Tryz.prog 91 #[.int .i64 ((hitsL ps ad m)[k]).1, .string ⟨((hitsL ps ad m)[k]).2.toArray⟩, .pointer (some ⟨q0, 0, none⟩), .pointer (some ⟨q1, 0, none⟩), .pointer (some ⟨q2, 0, none⟩), .pointer (some ⟨q3, 0, none⟩)] W fun e w' => e = .returned (.tuple #[]) ∧ Inv (k + 1) w' ∧ KeepsT W w') :
    Calls Tryz.prog 90 #[.pointer (some ⟨x.v, 0, none⟩), .agg #[.int .i64 ad, .int .i64 m], .func (.func 91) #[] #[.pointer (some ⟨q0, 0, none⟩), .pointer (some ⟨q1, 0, none⟩), .pointer (some ⟨q2, 0, none⟩), .pointer (some ⟨q3, 0, none⟩)]] w fun e w' => e = .returned (.tuple #[]) ∧ Inv (hitsL ps ad m).length w' := by
  have HI := Lib.hid (And.intro hview (And.intro hbelow (And.intro hstep (And.intro hps hinv))))
  have HV0 := Lib.hid (hview 0 w hinv)
  clear hview hbelow hstep hinv hps
  go_enter Tryz.func90, Tryz.ntmps90
  have g1 : ¬ m ≤ 0 := by omega
  have g2 : ¬ (1099511627776 : Int) < ad := by omega
  have g3 : m ≤ 2199023255552 := by omega
  have gm : min m 2199023255552 = m := by omega
  go_upto_region 4 with fail
  refine name_world fun W hW => ?_
  have wB : Below w.heap.size w W := by rw [← hW]; go_grown
  have ws : W.heap[w.heap.size]? = some (.cells [.int .i64 ad, .int .i64 m].toArray 49 (0, 0)) := by rw [← hW]; first | exact heap_alloc_new _ _ | exact block_set (heap_alloc_new _ _) 1 (.int .i64 m)
  have wV := HV0.out.1.below wB
  have c3 := cell_l wV.head 3 rfl
  have HW := Lib.hid (And.intro (HI.out.2.1 0 w W HI.out.2.2.2.2 wB) ws)
  clear hW wB ws wV
  go_wp2
  clear c3
  go_loopw [7, 8, 9, 10, 11, 12, 33] (fun _ _ _ _ _ _ i wr => ∃ k : Nat, k ≤ ps.length ∧ i = .int .i64 k ∧ Inv ((hitsL (ps.take k) ad m).length) wr ∧ wr.heap[w.heap.size]? = some (.cells [.int .i64 ad, .int .i64 m].toArray 49 (0, 0))) (fun _ _ _ _ _ _ i _ => ps.length - (vI i).toNat)
  case atStart => exact ⟨0, Nat.zero_le _, rfl, HW.out.1, HW.out.2⟩
  case round =>
    obtain ⟨k, hk, rfl, hi, hs⟩ := hrel
    by_cases hlt : k < ps.length
    · obtain ⟨hV, hC⟩ := HI.out.1 _ _ hi
      have hp := hC.ok.each _ (List.getElem_mem hlt)
      have hpe := HI.out.2.2.2.1 _ (List.getElem_mem hlt)
      have hla : ∀ j (hj : j < ps.length), k < j → ps[k].at_ + ps[k].size ≤ ps[j].at_ := fun j hj hkj => hC.ok.apart k j hlt hj hkj
      obtain ⟨q, hq⟩ : ∃ q, q = ps[k] := ⟨_, rfl⟩
      have hrg := area_range hV.areas k hlt
      have htk := hits_take ps ad m k hlt
      rw [← hq] at hp hpe hla hrg htk
      obtain ⟨p0, p1, p2, p3, p4⟩ := hp
      have HR := Lib.hid (And.intro hi (And.intro hs (And.intro hla (And.intro htk hq))))
      have hsl := lt_of_block hs
      clear hi hs hV hC hla htk hq
      unfold areaCells at hrg
      have HG := Lib.hid hrg
      clear hrg
      go_upto_region 7 with (first
        | (refine wpList_load_mid rfl 105 (.tmp 35) rfl x.ga (k * 5) rfl [.int .i64 q.at_, .int .i64 q.size, .int .i64 q.kind, .int .i64 q.owner, .int .i64 q.mod] _ HG.out Tryz.underlying105 rfl (by kernel_rfl) ?_)
        | ((with_reducible refine at_store_law ?_); refine wpList_store_row rfl _ _ _ rfl _ _ rfl rfl _ _ (by (repeat (first | assumption | exact heap_alloc_new _ _ | refine block_old ?_ | refine block_drew ?_ | apply setRow_heap | (refine (setRow_other _ _ _ _ ?_).trans ?_; omega)))) (by kernel_rfl) (by rfl) (by simp [Value.oneCell']) ?_; (try simp only [World.setRow_alloc_new])))
      refine name_world fun X hX => ?_
      have xB : Below wr.heap.size wr X := by rw [← hX]; go_grown
      have xa : X.heap[wr.heap.size]? = some (.cells [.int .i64 q.at_, .int .i64 q.size, .int .i64 q.kind, .int .i64 q.owner, .int .i64 q.mod].toArray 105 (0, 0)) := by rw [← hX]; exact heap_alloc_new _ _
      have xs := (xB.block _ hsl).trans HR.out.2.1
      have w1e : IntKind.i64.wrap (ad + m) = ad + m := IntWalk.i64_in _ (by omega)
      have w2e : IntKind.i64.wrap (q.at_ + q.size) = q.at_ + q.size := IntWalk.i64_in _ (by omega)
      have HX := Lib.hid (And.intro (HI.out.2.1 _ _ _ HR.out.1 xB) xs)
      clear hX xB
      refine wp_region_facts [.val (.pointer (some ⟨w.heap.size, 0, none⟩)), .val (.int .i64 ad), .val (.pointer (some ⟨wr.heap.size, 0, none⟩)), .val (.int .i64 q.at_), .val (.int .i64 (max ad q.at_)), .val (.pointer (some ⟨w.heap.size, 0, none⟩)), .val (.int .i64 ad), .val (.pointer (some ⟨w.heap.size, 1, none⟩)), .val (.int .i64 m), .val (.int .i64 (ad + m)), .val (.pointer (some ⟨wr.heap.size, 0, none⟩)), .val (.int .i64 q.at_), .val (.pointer (some ⟨wr.heap.size, 1, none⟩)), .val (.int .i64 q.size), .val (.int .i64 (q.at_ + q.size)), .val (.int .i64 (min (ad + m) (q.at_ + q.size))), .val (.int .i64 (max ad q.at_)), .val (.int .i64 (min (ad + m) (q.at_ + q.size)))] (by kernel_rfl) (by kernel_rfl) ?_ ?_
      · simp only [stepsAll, List.take, List.length]
        refine ⟨?_, ?_, ?_, ?_, ?_, ?_, ?_, ?_, ?_, ?_, ?_, ?_, ?_, ?_, ?_, ?_, ?_, ?_, ?_⟩
        all_goals first | trivial | (intro a wz hb hf hd)
        all_goals have hf4 : a.tmps[(4 : Nat)]?.getD undef = .pointer (some ⟨w.heap.size, 0, none⟩) := (hf 4 (by decide +kernel)).trans rfl
        all_goals have hf7 : a.tmps[(7 : Nat)]?.getD undef = .pointer (some ⟨wr.heap.size, 0, none⟩) := (hf 7 (by decide +kernel)).trans rfl
        · exact grow_value (v := .pointer (some ⟨w.heap.size, 0, none⟩)) (by simp [execOp, hf4, go_sem]) (Below.refl _ _) ⟨rfl, fun h => by cases h⟩
        · have h37 : a.tmps[(37 : Nat)]?.getD undef = .pointer (some ⟨w.heap.size, 0, none⟩) := hd 0 (by simp) (by kernel_rfl)
          have hc := cell_l ((hb.block _ (lt_of_block xs)).trans xs) 0 (rfl)
          exact grow_value (v := .int .i64 ad) (by simp [execOp, h37, hc, go_sem]) (Below.refl _ _) ⟨rfl, fun h => by cases h⟩
        · exact grow_value (v := .pointer (some ⟨wr.heap.size, 0, none⟩)) (by simp [execOp, hf7, go_sem]) (Below.refl _ _) ⟨rfl, fun h => by cases h⟩
        · have h39 : a.tmps[(39 : Nat)]?.getD undef = .pointer (some ⟨wr.heap.size, 0, none⟩) := hd 2 (by simp) (by kernel_rfl)
          have hc := cell_l ((hb.block _ (lt_of_block xa)).trans xa) 0 (rfl)
          exact grow_value (v := .int .i64 q.at_) (by simp [execOp, h39, hc, go_sem]) (Below.refl _ _) ⟨rfl, fun h => by cases h⟩
        · have h38 : a.tmps[(38 : Nat)]?.getD undef = .int .i64 ad := hd 1 (by simp) (by kernel_rfl)
          have h40 : a.tmps[(40 : Nat)]?.getD undef = .int .i64 q.at_ := hd 3 (by simp) (by kernel_rfl)
          exact grow_value (v := .int .i64 (max ad q.at_)) (by simp [execOp, h38, h40, go_sem]) (Below.refl _ _) ⟨rfl, fun h => by cases h⟩
        · exact grow_value (v := .pointer (some ⟨w.heap.size, 0, none⟩)) (by simp [execOp, hf4, go_sem]) (Below.refl _ _) ⟨rfl, fun h => by cases h⟩
        · have h42 : a.tmps[(42 : Nat)]?.getD undef = .pointer (some ⟨w.heap.size, 0, none⟩) := hd 5 (by simp) (by kernel_rfl)
          have hc := cell_l ((hb.block _ (lt_of_block xs)).trans xs) 0 (rfl)
          exact grow_value (v := .int .i64 ad) (by simp [execOp, h42, hc, go_sem]) (Below.refl _ _) ⟨rfl, fun h => by cases h⟩
        · exact grow_value (v := .pointer (some ⟨w.heap.size, 1, none⟩)) (by simp [execOp, hf4, go_sem]) (Below.refl _ _) ⟨rfl, fun h => by cases h⟩
        · have h44 : a.tmps[(44 : Nat)]?.getD undef = .pointer (some ⟨w.heap.size, 1, none⟩) := hd 7 (by simp) (by kernel_rfl)
          have hc := cell_l ((hb.block _ (lt_of_block xs)).trans xs) 1 (rfl)
          exact grow_value (v := .int .i64 m) (by simp [execOp, h44, hc, go_sem]) (Below.refl _ _) ⟨rfl, fun h => by cases h⟩
        · have h43 : a.tmps[(43 : Nat)]?.getD undef = .int .i64 ad := hd 6 (by simp) (by kernel_rfl)
          have h45 : a.tmps[(45 : Nat)]?.getD undef = .int .i64 m := hd 8 (by simp) (by kernel_rfl)
          exact grow_value (v := .int .i64 (ad + m)) (by simp [execOp, h43, h45, go_sem, w1e]) (Below.refl _ _) ⟨rfl, fun h => by cases h⟩
        · exact grow_value (v := .pointer (some ⟨wr.heap.size, 0, none⟩)) (by simp [execOp, hf7, go_sem]) (Below.refl _ _) ⟨rfl, fun h => by cases h⟩
        · have h47 : a.tmps[(47 : Nat)]?.getD undef = .pointer (some ⟨wr.heap.size, 0, none⟩) := hd 10 (by simp) (by kernel_rfl)
          have hc := cell_l ((hb.block _ (lt_of_block xa)).trans xa) 0 (rfl)
          exact grow_value (v := .int .i64 q.at_) (by simp [execOp, h47, hc, go_sem]) (Below.refl _ _) ⟨rfl, fun h => by cases h⟩
        · exact grow_value (v := .pointer (some ⟨wr.heap.size, 1, none⟩)) (by simp [execOp, hf7, go_sem]) (Below.refl _ _) ⟨rfl, fun h => by cases h⟩
        · have h49 : a.tmps[(49 : Nat)]?.getD undef = .pointer (some ⟨wr.heap.size, 1, none⟩) := hd 12 (by simp) (by kernel_rfl)
          have hc := cell_l ((hb.block _ (lt_of_block xa)).trans xa) 1 (rfl)
          exact grow_value (v := .int .i64 q.size) (by simp [execOp, h49, hc, go_sem]) (Below.refl _ _) ⟨rfl, fun h => by cases h⟩
        · have h48 : a.tmps[(48 : Nat)]?.getD undef = .int .i64 q.at_ := hd 11 (by simp) (by kernel_rfl)
          have h50 : a.tmps[(50 : Nat)]?.getD undef = .int .i64 q.size := hd 13 (by simp) (by kernel_rfl)
          exact grow_value (v := .int .i64 (q.at_ + q.size)) (by simp [execOp, h48, h50, go_sem, w2e]) (Below.refl _ _) ⟨rfl, fun h => by cases h⟩
        · have h46 : a.tmps[(46 : Nat)]?.getD undef = .int .i64 (ad + m) := hd 9 (by simp) (by kernel_rfl)
          have h51 : a.tmps[(51 : Nat)]?.getD undef = .int .i64 (q.at_ + q.size) := hd 14 (by simp) (by kernel_rfl)
          exact grow_value (v := .int .i64 (min (ad + m) (q.at_ + q.size))) (by simp [execOp, h46, h51, go_sem]) (Below.refl _ _) ⟨rfl, fun h => by cases h⟩
        · have h41 : a.tmps[(41 : Nat)]?.getD undef = .int .i64 (max ad q.at_) := hd 4 (by simp) (by kernel_rfl)
          exact grow_value (v := .int .i64 (max ad q.at_)) (by simp [execOp, h41, go_sem]) (Below.refl _ _) ⟨rfl, fun h => by cases h⟩
        · have h52 : a.tmps[(52 : Nat)]?.getD undef = .int .i64 (min (ad + m) (q.at_ + q.size)) := hd 15 (by simp) (by kernel_rfl)
          exact grow_value (v := .int .i64 (min (ad + m) (q.at_ + q.size))) (by simp [execOp, h52, go_sem]) (Below.refl _ _) ⟨rfl, fun h => by cases h⟩
      · intro fv w2 hb2 hs hn hne
        have g37 : fv 37 = .pointer (some ⟨w.heap.size, 0, none⟩) := hs 0 (by simp)
        have g38 : fv 38 = .int .i64 ad := hs 1 (by simp)
        have g39 : fv 39 = .pointer (some ⟨wr.heap.size, 0, none⟩) := hs 2 (by simp)
        have g40 : fv 40 = .int .i64 q.at_ := hs 3 (by simp)
        have g41 : fv 41 = .int .i64 (max ad q.at_) := hs 4 (by simp)
        have g42 : fv 42 = .pointer (some ⟨w.heap.size, 0, none⟩) := hs 5 (by simp)
        have g43 : fv 43 = .int .i64 ad := hs 6 (by simp)
        have g44 : fv 44 = .pointer (some ⟨w.heap.size, 1, none⟩) := hs 7 (by simp)
        have g45 : fv 45 = .int .i64 m := hs 8 (by simp)
        have g46 : fv 46 = .int .i64 (ad + m) := hs 9 (by simp)
        have g47 : fv 47 = .pointer (some ⟨wr.heap.size, 0, none⟩) := hs 10 (by simp)
        have g48 : fv 48 = .int .i64 q.at_ := hs 11 (by simp)
        have g49 : fv 49 = .pointer (some ⟨wr.heap.size, 1, none⟩) := hs 12 (by simp)
        have g50 : fv 50 = .int .i64 q.size := hs 13 (by simp)
        have g51 : fv 51 = .int .i64 (q.at_ + q.size) := hs 14 (by simp)
        have g52 : fv 52 = .int .i64 (min (ad + m) (q.at_ + q.size)) := hs 15 (by simp)
        have g8 : fv 8 = .int .i64 (max ad q.at_) := hs 16 (by simp)
        have g9 : fv 9 = .int .i64 (min (ad + m) (q.at_ + q.size)) := hs 17 (by simp)
        rw [show (List.range (List.length _)).map (dstOf _) = [37, 38, 39, 40, 41, 42, 43, 44, 45, 46, 47, 48, 49, 50, 51, 52, 8, 9] from by kernel_rfl]
        simp only [actOf, List.foldl, Act.put, List.drop, List.length, g37, g38, g39, g40, g41, g42, g43, g44, g45, g46, g47, g48, g49, g50, g51, g52, g8, g9, List.setIfInBounds_toArray, List.set_cons_zero, List.set_cons_succ]
        clear hs hn hne g37 g38 g39 g40 g41 g42 g43 g44 g45 g46 g47 g48 g49 g50 g51 g52 g8 g9
        have zs := (hb2.block _ (lt_of_block xs)).trans xs
        have HZ := Lib.hid (And.intro (HI.out.2.1 _ _ _ HX.out.1 hb2) zs)
        have lz : w.heap.size < w2.heap.size := lt_of_block zs
        obtain ⟨lo, hlo⟩ : ∃ lo, lo = max ad q.at_ := ⟨_, rfl⟩
        obtain ⟨hi, hhi⟩ : ∃ hi, hi = min (ad + m) (q.at_ + q.size) := ⟨_, rfl⟩
        rw [← hlo, ← hhi]
        have hcnt : (hitL q ad m).length = ((hi - lo) / 8).toNat := by rw [hitL_length, ← hlo, ← hhi]
        have b1 : 0 ≤ lo ∧ lo ≤ 2000000 ∧ lo % 8 = 0 ∧ q.at_ ≤ lo := by omega
        have b2 : 0 ≤ hi ∧ hi ≤ 1000000 ∧ hi ≤ q.at_ + q.size := by omega
        obtain ⟨b10, b11, b12, b13⟩ := b1
        obtain ⟨b20, b21, b22⟩ := b2
        have hneg : IntKind.i64.wrap (-lo) = -lo := IntWalk.i64_in _ (by omega)
        have hand := and7 lo b12
        have hdif : IntKind.i64.wrap (hi - lo) = hi - lo := IntWalk.i64_in _ (by omega)
        have HL := Lib.hid (And.intro hlo (And.intro hhi (And.intro hcnt (And.intro hdif b12))))
        clear hb2 xs xa zs hlo hhi hcnt w1e w2e b12 hdif HX
        go_upto_region 9 with fail
        clear hneg hand
        have hdif := HL.out.2.2.2.1
        by_cases hsm : hi - lo < 8
        · go_wp2
          go_roundw
          case rel =>
            refine ⟨k + 1, by omega, by go_num, ?_, HZ.out.2⟩
            rw [HR.out.2.2.2.1, HL.out.2.2.1]
            have : ((hi - lo) / 8).toNat = 0 := by omega
            rw [this]
            exact HZ.out.1
          case measure => simp [vI]; omega
        · obtain ⟨c, hc⟩ : ∃ c : Nat, (c : Int) = (hi - lo) / 8 := ⟨((hi - lo) / 8).toNat, by omega⟩
          have hquo : Int.tdiv (hi - lo) 8 = (c : Int) := by rw [Int.tdiv_eq_ediv_of_nonneg (by omega)]; exact hc.symm
          have hc1 : 8 * (c : Int) ≤ hi - lo := by omega
          have hmul : IntKind.i64.wrap ((c : Int) * 8) = (c : Int) * 8 := IntWalk.i64_in _ (by omega)
          have hquw : IntKind.i64.wrap (c : Int) = (c : Int) := IntWalk.i64_in _ (by omega)
          have HCc := Lib.hid hc
          clear hc
          obtain ⟨hV, hC⟩ := HI.out.1 _ _ HZ.out.1
          have c0 := cell_l hV.head 0 rfl
          have HC := Lib.hid hC
          clear hV hC
          go_wp2_with fail
          go_at_call 9
          refine (hspace n.p n.s n.b n.l _ sv _ HC.out.head).mono ?_
          rintro e w3 ⟨rfl, rfl⟩
          clear c0
          go_wp2_with fail
          go_at_call 11
          have hqk := HR.out.2.2.2.2
          have hla : LastAt ps lo k := ⟨hlt, by rw [← hqk]; exact b13, fun j hj hkj => Int.lt_of_lt_of_le (show lo < q.at_ + q.size by omega) (HR.out.2.2.1 j hj hkj)⟩
          refine (read_some n.s g cap ps lo ((c : Int) * 8) w3 HC.out.ok HC.out.space k hla q hqk (by omega) (by have := HCc.out; omega)).mono ?_
          rintro e w4 ⟨hb4, rfl⟩
          have hRl : (readL q lo ((c : Int) * 8)).length = 8 * c := by
            obtain ⟨r1, r2, cur, r3, r4, r5⟩ := HC.out.space.bytes.2 q (by rw [hqk]; exact List.getElem_mem hlt)
            simp [readL]; omega
          obtain ⟨R, hR⟩ : ∃ R, R = (⟨(readL q lo ((c : Int) * 8)).toArray⟩ : ByteArray) := ⟨_, rfl⟩
          have hRs : R.size = 8 * c := by rw [hR]; simpa [ByteArray.size] using hRl
          have hRx : ∀ j : Nat, j < c → R.extract (8 * j) (8 * j + 8) = ⟨(readL q (lo + 8 * (j : Int)) 8).toArray⟩ := fun j hj => by rw [hR]; exact word_extract q lo _ j b13 (by omega)
          rw [← hR]
          have z4 := (hb4.block _ (lt_of_block HZ.out.2)).trans HZ.out.2
          have H4 := Lib.hid (And.intro (HI.out.2.1 _ _ _ HZ.out.1 hb4) (And.intro z4 (And.intro hRx hRs)))
          have l4 : w.heap.size < w4.heap.size := lt_of_block z4
          clear hb4 z4 hRx hRs hR hRl hla hquo hmul hquw hdif hqk
          go_wp2_with fail
          go_loopw [12] (fun i wq => ∃ j : Nat, j ≤ c ∧ i = .int .i64 ((8 * j : Nat) : Int) ∧ Inv ((hitsL (ps.take k) ad m).length + j) wq ∧ wq.heap[w.heap.size]? = some (.cells [.int .i64 ad, .int .i64 m].toArray 49 (0, 0))) (fun i _ => 8 * c - (vI i).toNat)
          case atStart => exact ⟨0, Nat.zero_le _, rfl, H4.out.1, H4.out.2.1⟩
          case round =>
            obtain ⟨j, hj, rfl, hij, hsj⟩ := hrel
            have HJ := Lib.hid (And.intro hij hsj)
            clear hij hsj
            have hRs := H4.out.2.2.2
            by_cases hjl : j < c
            · have j1 : ((8 * j : Nat) : Int) < (R.size : Int) := by omega
              have j2 : IntKind.i64.wrap (((8 * j : Nat) : Int) + 8) = ((8 * j : Nat) : Int) + 8 := IntWalk.i64_in _ (by omega)
              have j3 : IntKind.i64.wrap (lo + ((8 * j : Nat) : Int)) = lo + ((8 * j : Nat) : Int) := IntWalk.i64_in _ (by omega)
              have j4 : ((8 * j : Nat) : Int) + 8 ≤ (R.size : Int) := by omega
              go_wp2_with fail
              go_at_call 91
              have hiq : j < (hitL ps[k] ad m).length := by rw [← HR.out.2.2.2.2, HL.out.2.2.1]; have := HCc.out; omega
              have hgt := hits_get ps ad m k j hlt hiq
              have hlt2 := hits_lt ps ad m k j hlt hiq
              rw [List.getElem?_eq_getElem hlt2] at hgt
              have hgt2 := Option.some.inj hgt
              have hel : (hitL ps[k] ad m)[j] = (lo + 8 * (j : Int), readL q (lo + 8 * (j : Int)) 8) := by
                have e := HR.out.2.2.2.2
                have e2 := HL.out.1
                simp only [hitL, List.getElem_map, List.getElem_range, ← e, ← e2]
              rw [hel] at hgt2
              have hst := HI.out.2.2.1 _ hlt2 wr HJ.out.1
              rw [hgt2] at hst
              rw [H4.out.2.2.1 j hjl]
              refine hst.mono ?_
              rintro e w5 ⟨rfl, hi5, hk5⟩
              have H5 := Lib.hid (And.intro hi5 (hk5.2 _ _ _ _ HJ.out.2 (.inl rfl)))
              clear hst hgt hgt2 hel hi5 hk5
              go_wp2
              go_roundw
              case rel => exact ⟨j + 1, by omega, by first | (congr 1; omega) | congr 1, H5.out.1, H5.out.2⟩
              case measure => simp [vI]; omega
            · obtain rfl : j = c := by omega
              have j1 : ¬ ((8 * j : Nat) : Int) < (R.size : Int) := by omega
              go_wp2
              go_roundw
              case rel =>
                refine ⟨k + 1, by omega, by go_num, ?_, HJ.out.2⟩
                rw [HR.out.2.2.2.1, HL.out.2.2.1]
                have := HCc.out
                have e : ((hi - lo) / 8).toNat = j := by omega
                rw [e]
                exact HJ.out.1
              case measure => simp [vI]; omega
    · obtain rfl : k = ps.length := by omega
      have HH := Lib.hid hi
      clear hi hs
      go_wp2
      go_end0
      have h := HH.out
      rw [List.take_length] at h
      exact ⟨rfl, h⟩
end Go.Proofs.YtkbilipgidcgeaaGreatDoor.Tiny

namespace Go.Proofs.YtkbilipgidcgeaaGreatDoor.Tiny
open Go.RowKit Go.ChangeMaps Go.Maps Go.MapKept
attribute [local go_sem] ext_cell ext_frozen
attribute [local irreducible] labCells modC threadC

set_option maxRecDepth 100000 in
theorem each_none (v f : Value) (ad m : Int) (w : World) (hm : m ≤ 0) :
    Calls Tryz.prog 90 #[v, .agg #[.int .i64 ad, .int .i64 m], f] w fun e w' => e = .returned (.tuple #[]) ∧ Below w.heap.size w w' := by
  go_enter Tryz.func90, Tryz.ntmps90
  go_wp2
  refine bodyPost_ret (results_none rfl _ _ _) rfl ?_
  exact ⟨rfl, by go_grown⟩

theorem hits_none (ps : List Part) (ad : Int) : hitsL ps ad 0 = [] := by
  unfold hitsL
  rw [List.flatMap_eq_nil_iff]
  intro p _
  apply List.eq_nil_of_length_eq_zero
  rw [hitL_length]
  omega

theorem each_code' (B : ByteArray) (n : PN) (sv : Value) (g cap q0 q1 q2 q3 : Nat) (l : List Str) (ps : List Part) (x : VN) (ad m : Int) (Inv : Nat → World → Prop) (w : World) (h0 : 0 ≤ ad) (h1 : ad % 8 = 0) (h2 : 0 ≤ m) (h3 : ad + m ≤ 1000000) (hps : ∀ p ∈ ps, p.at_ + p.size ≤ 1000000) (hfew : ps.length ≤ 1000)
    (hview : ∀ k W, Inv k W → ViewAt B W x n.p l ps ∧ Ctx B W n sv g cap l ps) (hbelow : ∀ k W W', Inv k W → Below W.heap.size W W' → Inv k W') (hinv : Inv 0 w)
    (hstep : ∀ k (hk : k < (hitsL ps ad m).length) W, Inv k W → Calls Tryz.prog 91 #[.int .i64 ((hitsL ps ad m)[k]).1, .string ⟨((hitsL ps ad m)[k]).2.toArray⟩, .pointer (some ⟨q0, 0, none⟩), .pointer (some ⟨q1, 0, none⟩), .pointer (some ⟨q2, 0, none⟩), .pointer (some ⟨q3, 0, none⟩)] W fun e w' => e = .returned (.tuple #[]) ∧ Inv (k + 1) w' ∧ KeepsT W w') :
    Calls Tryz.prog 90 #[.pointer (some ⟨x.v, 0, none⟩), .agg #[.int .i64 ad, .int .i64 m], .func (.func 91) #[] #[.pointer (some ⟨q0, 0, none⟩), .pointer (some ⟨q1, 0, none⟩), .pointer (some ⟨q2, 0, none⟩), .pointer (some ⟨q3, 0, none⟩)]] w fun e w' => e = .returned (.tuple #[]) ∧ Inv (hitsL ps ad m).length w' := by
  by_cases hm : m = 0
  · subst hm
    refine (each_none _ _ ad 0 w (Int.le_refl 0)).mono ?_
    rintro e w' ⟨rfl, hb⟩
    rw [hits_none]
    exact ⟨rfl, hbelow 0 w w' hinv hb⟩
  · exact each_code B n sv g cap q0 q1 q2 q3 l ps x ad m Inv w h0 h1 (by omega) h3 hps hfew hview hbelow hinv hstep

def lowsJ (J : List InsR) (r : Int) : List Int := (J.filter fun I => decide (I.op = 3 ∧ r = I.a)).map (·.imm)
def highsJ (J : List InsR) (r : Int) : List Int := (J.filter fun I => decide (I.op = 4 ∧ r = I.a)).map (·.imm)
theorem lows_snoc (J : List InsR) (I : InsR) (r : Int) : lowsJ (J ++ [I]) r = if I.op = 3 ∧ r = I.a then lowsJ J r ++ [I.imm] else lowsJ J r := by
  unfold lowsJ
  rw [List.filter_append, List.map_append]
  by_cases h : I.op = 3 ∧ r = I.a
  · rw [if_pos h]; simp [List.filter_cons, h]
  · rw [if_neg h]; simp only [List.filter_cons, decide_eq_false h]; simp
theorem highs_snoc (J : List InsR) (I : InsR) (r : Int) : highsJ (J ++ [I]) r = if I.op = 4 ∧ r = I.a then highsJ J r ++ [I.imm] else highsJ J r := by
  unfold highsJ
  rw [List.filter_append, List.map_append]
  by_cases h : I.op = 4 ∧ r = I.a
  · rw [if_pos h]; simp [List.filter_cons, h]
  · rw [if_neg h]; simp only [List.filter_cons, decide_eq_false h]; simp

/-- The numbers that the first k instructions make by themselves. -/
def MadeTo (hs : List (Int × List UInt8)) (J : List InsR) (k : Nat) (z : Int) : Prop :=
  ∃ j, ∃ h1 : j < hs.length, ∃ h2 : j < J.length, j < k ∧ ((JumpOp J[j].op ∧ z = hs[j].1 + J[j].imm) ∨ (J[j].op = 3 ∧ z = J[j].imm))
theorem made_succ (hs : List (Int × List UInt8)) (J : List InsR) (k : Nat) (h1 : k < hs.length) (h2 : k < J.length) (z : Int) :
    MadeTo hs J (k + 1) z ↔ ((JumpOp J[k].op ∧ z = hs[k].1 + J[k].imm) ∨ (J[k].op = 3 ∧ z = J[k].imm)) ∨ MadeTo hs J k z := by
  constructor
  · rintro ⟨j, a, b, hj, h⟩
    by_cases e : j = k
    · subst e; exact .inl h
    · exact .inr ⟨j, a, b, by omega, h⟩
  · rintro (h | ⟨j, a, b, hj, h⟩)
    · exact ⟨k, h1, h2, by omega, h⟩
    · exact ⟨j, a, b, by omega, h⟩

theorem groups_new (w : World) (b base : Nat) (hb : w.heap[b]? = some (.map #[] 0)) (hbb : b < base) : Gr w base b 0 (.map []) :=
  ⟨#[], 0, hb, ⟨by simp, stamped_empty 0, by simp⟩, Nat.le_refl _, rfl, hbb, by simp, by simp⟩
theorem Grp.made {w : World} {bl bh base : Nat} (h1 : w.heap[bl]? = some (.map #[] 0)) (h2 : w.heap[bh]? = some (.map #[] 0)) (l1 : bl < base) (l2 : bh < base) (hne : bl ≠ bh) (hB : base ≤ w.heap.size) : Grp w bl bh base 0 (fun _ => []) (fun _ => []) :=
  ⟨⟨_, groups_new w bl base h1 l1, fun r => rfl⟩, ⟨_, groups_new w bh base h2 l2, fun r => rfl⟩, fun g a _ => by
    obtain ⟨es, c, hb, x, hx, _⟩ := a
    rw [h1] at hb
    cases hb
    simp at hx, hne, hB⟩

/-- What is so after each call of the closure. -/
structure CodeAt (B : ByteArray) (w : World) (n : PN) (sv : Value) (g cap b nn q bl bh base : Nat) (l : List Str) (ps : List Part) (x : VN) (S : Int → Prop) (hs : List (Int × List UInt8)) (J : List InsR) (k : Nat) (W : World) : Prop where
  view : ViewAt B W x n.p l ps
  ctx : Ctx B W n sv g cap l ps
  forms : Forms W
  set : SetAt W b (nn + k) (fun z => MadeTo hs J k z ∨ S z)
  grp : Grp W bl bh base k (lowsJ (J.take k)) (highsJ (J.take k))
  q0 : W.heap[q + 2]? = some (.cells #[.func (.func 45) #[] #[]] 131 (0, 0))
  q1 : W.heap[q]? = some (.cells #[.map (some b)] 127 (0, 0))
  q2 : W.heap[q + 5]? = some (.cells #[.map (some bl)] 185 (0, 0))
  q3 : W.heap[q + 6]? = some (.cells #[.map (some bh)] 185 (0, 0))
  only : Only (· = b) w W

theorem CodeAt.below {B : ByteArray} {w : World} {n : PN} {sv : Value} {g cap b nn q bl bh base : Nat} {l : List Str} {ps : List Part} {x : VN} {S : Int → Prop} {hs : List (Int × List UInt8)} {J : List InsR} {k : Nat} {W W' : World}
    (h : CodeAt B w n sv g cap b nn q bl bh base l ps x S hs J k W) (hb : Below W.heap.size W W') : CodeAt B w n sv g cap b nn q bl bh base l ps x S hs J k W' :=
  ⟨h.view.below hb, h.ctx.below hb, h.forms.below hb, h.set.below hb, h.grp.below hb, (hb.block _ (lt_of_block h.q0)).trans h.q0, (hb.block _ (lt_of_block h.q1)).trans h.q1, (hb.block _ (lt_of_block h.q2)).trans h.q2, (hb.block _ (lt_of_block h.q3)).trans h.q3, h.only.trans (Only.of_below hb)⟩

end Go.Proofs.YtkbilipgidcgeaaGreatDoor.Tiny

namespace Go.Proofs.YtkbilipgidcgeaaGreatDoor.Tiny
open Go.RowKit Go.ChangeMaps Go.Maps
attribute [local go_sem] ext_cell ext_frozen
attribute [local irreducible] labCells modC threadC

theorem keepsT_I {w w' : World} (h : KeepsI w w') : KeepsT w w' := ⟨h.1, fun b cs t fr hb ht => h.2 b cs t fr hb (by rcases ht with rfl | rfl <;> decide)⟩
/-- A slice of ints, as the walk reads it. -/
theorem slice_form {w : World} {base : Nat} {v : Value} {zs : List Int} (h : w.ownsInts base 3 .i64 v zs) :
    ∃ (a : Option Addr) (g cap : Nat), v = .slice a zs.length cap ∧ (0 < zs.length → a = some ⟨g, 0, none⟩ ∧ base ≤ g ∧ g < w.heap.size) ∧ ∀ j (hj : j < zs.length), w.cell? ⟨g, j, none⟩ = some (.int .i64 zs[j]) := by
  rcases h.1.2 with ⟨rfl, h0⟩ | ⟨g, cap, cur, rfl, hg, hh, _, _, _, _⟩
  · exact ⟨none, 0, 0, by rw [h0], fun h => by omega, fun j hj => by omega⟩
  · refine ⟨some ⟨g, 0, none⟩, g, cap, rfl, fun _ => ⟨rfl, hg, lt_of_block hh⟩, fun j hj => ?_⟩
    have := h.1.cellAt j (by simpa using hj)
    rw [this]
    simp [List.getD, List.getElem?_eq_getElem hj]
theorem size_le {w : World} {b n : Nat} {R : Value → Option (DataW Unit × List MemPlace)} {D : DataW Unit} (h : w.ownsMap Tryz.prog 3 R b n D) : Maps.size D ≤ n := by
  obtain ⟨es, clock, hb, F, hs, rfl⟩ := h
  show (List.foldr DataW.insert [] _).length ≤ n
  rw [length_sorted]
  simpa using hs
theorem grown_none {w w' : World} (h : w.grownBy w' none) : Below w.heap.size w w' := ⟨h.os, h.tape, h.output, h.size, fun k hk => h.block k hk (by simp)⟩
theorem only_iter {w w1 w2 : World} {b it : Nat} (h : Only (· = b) w w1) (hi : w.heap.size ≤ it) (hg : w1.grownBy w2 (some it)) : Only (· = b) w w2 :=
  ⟨hg.os.trans h.os, hg.tape.trans h.tape, hg.output.trans h.output, Nat.le_trans h.size hg.size, fun k hk hn => (hg.block k (Nat.lt_of_lt_of_le hk h.size) (fun e => by have := Option.some.inj e; omega)).trans (h.block k hk hn)⟩

/-- The numbers that a low and a high half make. -/
def comb (hi lo : Int) : Int := bits BinOp.or IntKind.i64 (wrap64 (hi * 4294967296)) (lo % 4294967296)
theorem comb_wf (hi lo : Int) : (Lit.int .i64 (comb hi lo)).wf = true := wf_bits _ _ _ _
def Comb (L H : Int → List Int) (z : Int) : Prop := ∃ r, ∃ lo ∈ L r, ∃ hi ∈ H r, z = comb hi lo

set_option maxRecDepth 100000 in
set_option maxHeartbeats 4000000 in
theorem hcode (B : ByteArray) (n : PN) (sv : Value) (g cap b nn : Nat) (l : List Str) (ps : List Part) (x : VN) (ad m : Int) (S : Int → Prop) (J : List InsR) (w : World) (hV : ViewAt B w x n.p l ps) (hC : Ctx B w n sv g cap l ps) (hF : Forms w) (hS : SetAt w b nn S)
    (h0 : 0 ≤ ad) (h8 : ad % 8 = 0) (h2 : 0 ≤ m) (h3 : ad + m ≤ 1000000) (hps : ∀ p ∈ ps, p.at_ + p.size ≤ 1000000) (hfew : ps.length ≤ 1000) (hJ : J.length = (hitsL ps ad m).length) (hD : ∀ k (h1 : k < (hitsL ps ad m).length) (h2 : k < J.length), DecOk ((hitsL ps ad m)[k]).2 J[k]) (hmax : nn < 100000) (hlen : J.length ≤ 80) :
    Calls Tryz.prog 44 #[.pointer (some ⟨x.v, 0, none⟩), .map (some b), .agg #[.int .i64 ad, .int .i64 m], .func (.func 45) #[] #[]] w fun e w' => e = .returned (.tuple #[]) ∧ SetAt w' b 900000 (fun z => MadeTo (hitsL ps ad m) J J.length z ∨ Comb (lowsJ J) (highsJ J) z ∨ S z) ∧ Only (· = b) w w' := by
  have hmm := @run_makeMap Tryz.prog
  have HH := Lib.hid (And.intro hV (And.intro hC (And.intro hF (And.intro hS (And.intro hD (And.intro hps hJ))))))
  have hbl := hS.lt
  clear hV hC hS hF hD hps hJ
  go_enter Tryz.func44, Tryz.ntmps44
  go_upto_region 2 with fail
  refine name_world fun W hW => ?_
  have wB : Below w.heap.size w W := by rw [← hW]; go_grown
  have ks : W.heap[w.heap.size + 1]? = some (.cells [.int .i64 ad, .int .i64 m].toArray 49 (0, 0)) := by rw [← hW]; exact block_old (block_old (block_old (block_old (block_old (block_at (o := .cells #[.int .i64 ad, .int .i64 m] 49) (by simp))))))
  have e1 : W.heap[w.heap.size]? = some (.cells #[.map (some b)] 127 (0, 0)) := by rw [← hW]; exact block_old (block_old (block_old (block_old (block_old (block_old (heap_alloc_new w _))))))
  have e0 : W.heap[w.heap.size + 2]? = some (.cells #[.func (.func 45) #[] #[]] 131 (0, 0)) := by rw [← hW]; exact block_old (block_old (block_old (block_old (block_at (o := .cells #[.func (.func 45) #[] #[]] 131) (by simp)))))
  have f1 : W.heap[w.heap.size + 3]? = some (.map #[] 0) := by rw [← hW]; exact block_old (block_old (block_old (block_at (o := .map #[] 0) (by simp))))
  have f2 : W.heap[w.heap.size + 4]? = some (.map #[] 0) := by rw [← hW]; exact block_old (block_old (block_at (o := .map #[] 0) (by simp)))
  have e2 : W.heap[w.heap.size + 5]? = some (.cells #[.map (some (w.heap.size + 3))] 185 (0, 0)) := by rw [← hW]; exact block_old (block_at (o := .cells #[.map (some (w.heap.size + 1 + 1 + 1))] 185) (by simp))
  have e3 : W.heap[w.heap.size + 6]? = some (.cells #[.map (some (w.heap.size + 4))] 185 (0, 0)) := by rw [← hW]; exact block_at (o := .cells #[.map (some (w.heap.size + 1 + 1 + 1 + 1))] 185) (by simp)
  have lW : W.heap.size = w.heap.size + 7 := by rw [← hW]; simp
  have HW := Lib.hid (show CodeAt B w n sv g cap b nn w.heap.size (w.heap.size + 3) (w.heap.size + 4) (w.heap.size + 7) l ps x S (hitsL ps ad m) J 0 W from
    ⟨HH.out.1.below wB, HH.out.2.1.below wB, HH.out.2.2.1.below wB, (HH.out.2.2.2.1.below wB).same (fun z => ⟨.inr, fun h => h.elim (fun ⟨j, _, _, hj, _⟩ => absurd hj (Nat.not_lt_zero j)) id⟩),
      (Grp.made f1 f2 (by omega) (by omega) (by omega) (by omega)), e0, e1, e2, e3, Only.of_below wB⟩)
  clear hW wB e0 e1 e2 e3 f1 f2
  go_wp2_with (refine wpList_load_row rfl 49 (.tmp 6) rfl (w.heap.size + 1) rfl 49 [.int .i64 ad, .int .i64 m].toArray (0, 0) _ ks Tryz.underlying49 rfl (by kernel_rfl) ?_)
  clear ks
  go_at_call 90
  refine (each_code' B n sv g cap (w.heap.size + 1 + 1) w.heap.size (w.heap.size + 1 + 1 + 1 + 1 + 1) (w.heap.size + 1 + 1 + 1 + 1 + 1 + 1) l ps x ad m (CodeAt B w n sv g cap b nn w.heap.size (w.heap.size + 3) (w.heap.size + 4) (w.heap.size + 7) l ps x S (hitsL ps ad m) J) W h0 h8 h2 h3 HH.out.2.2.2.2.2.1 hfew (fun k W' h => ⟨h.view, h.ctx⟩) (fun k W' W'' h hb => h.below hb) HW.out ?_).mono ?_
  · intro k hk W' h
    have hkJ : k < J.length := by rw [HH.out.2.2.2.2.2.2]; exact hk
    have hM : MapB W' b := SetAt.mapB h.set
    obtain ⟨k', hk', f1, f2, f3, f4, f5⟩ := hit_facts h.ctx.ok h0 h8 (List.getElem_mem hk)
    have l6 := lt_of_block h.q3
    refine (code1 _ _ _ _ b (nn + k) (w.heap.size + 3) (w.heap.size + 4) (w.heap.size + 7) k _ _ J[k] _ _ _ W' h.forms (HH.out.2.2.2.2.1 k hk hkJ) h.set h.grp (cell_l h.q0 0 rfl) (cell_l h.q1 0 rfl) (cell_l h.q2 0 rfl) (cell_l h.q3 0 rfl) (by omega) (by omega) (lt_of_block h.q0) (lt_of_block h.q1) (lt_of_block h.q2) (lt_of_block h.q3) (by omega) (by omega) (by omega) (by omega) (by omega) (by omega) (by omega)).mono ?_
    rintro e w' ⟨he, hs1, hg1, hK, ho⟩
    have hw' : Only (· = b) w w' := h.only.then ho (fun k hk h => by
      rcases h with h | h | h | h
      · exact h
      · omega
      · omega
      · omega)
    have hM0 : MapB w b := SetAt.mapB HH.out.2.2.2.1
    have hne : ¬ 0 = b := fun e => by
      have hc := HH.out.2.2.1.get 0 (by omega)
      exact cell_ne_map0 hc hM0 e
    refine ⟨he, ⟨HH.out.1.set hM0 hw', HH.out.2.1.set hM0 hw', HH.out.2.2.1.only hw' hne, hs1.same (fun z => ?_), hg1.same (fun r => ?_) (fun r => ?_), hK.2 _ _ _ _ h.q0 (by decide), hK.2 _ _ _ _ h.q1 (by decide), hK.2 _ _ _ _ h.q2 (by decide), hK.2 _ _ _ _ h.q3 (by decide), hw'⟩, keepsT_I hK⟩
    · rw [made_succ _ _ _ hk hkJ, or_assoc, or_assoc]
    · rw [List.take_succ_eq_append_getElem hkJ, lows_snoc]
    · rw [List.take_succ_eq_append_getElem hkJ, highs_snoc]
  rintro e w2 ⟨rfl, h2c⟩
  rw [← HH.out.2.2.2.2.2.2] at h2c
  have hL := h2c.grp
  rw [List.take_length] at hL
  have c2 := cell_l h2c.q2 0 rfl
  obtain ⟨D, gD, iD⟩ := hL.lows
  have H2 := Lib.hid (And.intro h2c (And.intro hL iD))
  clear h2c hL iD HW
  obtain ⟨R, hR⟩ : ∃ R, R = rowElem (H := Unit) w2 (w.heap.size + 7) 3 .i64 := ⟨_, rfl⟩
  obtain ⟨es, ck, hbm, F, hs, hDe, _⟩ := gD
  have hown : w2.ownsMap Tryz.prog 3 R (w.heap.size + 3) J.length D := ⟨es, ck, hbm, by rw [hR]; exact F, hs, by rw [hR]; exact hDe⟩
  clear hbm F hs hDe
  have hsz := size_le hown
  have l2 : w.heap.size + 7 ≤ w2.heap.size := H2.out.2.1.base
  obtain ⟨S1, hS1⟩ : ∃ S1 : Int → Prop, S1 = fun z => MadeTo (hitsL ps ad m) J J.length z ∨ S z := ⟨_, rfl⟩
  have HJl := Lib.hid (show ∀ r, (highsJ J r).length ≤ 80 from fun r => Nat.le_trans (by unfold highsJ; rw [List.length_map]; exact List.length_filter_le _ _) hlen)
  have HR := Lib.hid (And.intro hR hS1)
  clear hR
  go_wp2_with (first
    | (at_range; refine wpList_range_own _ rfl _ 185 rfl 3 31 int_key Tryz.underlying185 R (w.heap.size + 3) J.length D rfl hown ?_; intro w0 hrg0 hg0 hs0)
    | go_in)
  go_frame
  have hst : SetAt w0 b (nn + J.length) (fun z => S1 z ∨ ∃ r, Maps.has D (.int .i64 r) = true ∧ Maps.has D (.int .i64 r) = false ∧ ∃ lo ∈ lowsJ J r, ∃ hi ∈ highsJ J r, z = comb hi lo) := by
    have h0 := H2.out.1.set
    rw [← hS1] at h0
    exact (h0.only (Only.of_below (S := fun _ => False) (grown_none hg0)) (fun h => h)).same (fun z => ⟨.inl, fun h => h.elim id (fun ⟨r, h1, h2, _⟩ => by rw [h1] at h2; cases h2)⟩)
  have ho0 : Only (· = b) w2 w0 := Only.of_below (grown_none hg0)
  clear hS1 c2
  go_loopw [10, 11, 13, 15] (fun _ _ _ _ wr => ∃ (left : Lit → Bool) (cnt c : Nat), wr.ranges Tryz.prog 3 R (w.heap.size + 3) w2.heap.size J.length D left cnt ∧ c + 6400 * cnt ≤ nn + J.length + 6400 * Maps.size D ∧
      SetAt wr b c (fun z => S1 z ∨ ∃ r, Maps.has D (.int .i64 r) = true ∧ left (.int .i64 r) = false ∧ ∃ lo ∈ lowsJ J r, ∃ hi ∈ highsJ J r, z = comb hi lo) ∧ Only (· = b) w2 wr) (fun _ _ _ _ wr => wr.rangeLeft (w.heap.size + 3) w2.heap.size)
  case atStart => exact ⟨_, _, _, hrg0, Nat.le_refl _, hst, ho0⟩
  case round =>
    obtain ⟨left, cnt, c, hrg, hc, hS, ho⟩ := hrel
    have HL := Lib.hid (And.intro hS ho)
    clear hS ho hst ho0 hg0 hs0 hrg0
    go_wp2_with (first
      | (at_next; refine wpList_next_ranges _ rfl _ rfl 3 int_key R (Value.int .i64) (fun v : Value => v) (fun key kl hkey => by obtain ⟨x, rfl, _⟩ := Maps.keyOf_int_inv Tryz.underlying3 hkey; exact ⟨x, rfl⟩) (fun v y hv => ⟨v, rfl⟩) (w.heap.size + 3) w2.heap.size J.length D _ _ rfl hrg ?_ ?_)
      | go_in)
    · intro hc0 hl0
      go_wp2
      go_end0
      refine ⟨rfl, (HL.out.1.up (by omega)).same (fun z => ?_), H2.out.1.only.trans HL.out.2⟩
      rw [HR.out.2]
      constructor
      · rintro ((h | h) | ⟨r, _, _, h⟩)
        · exact .inl h
        · exact .inr (.inr h)
        · exact .inr (.inl ⟨r, h⟩)
      · rintro (h | ⟨r, lo, hlo, h⟩ | h)
        · exact .inl (.inl h)
        · refine .inr ⟨r, ?_, hl0 _, lo, hlo, h⟩
          cases hh : Maps.has D (.int .i64 r) with
          | true => rfl
          | false =>
            rw [← H2.out.2.2 r, atKey_of_not_has hh] at hlo
            cases hlo
        · exact .inl (.inr h)
    · intro x cv kl y pl w3 cnt1 hkey hlx hv hat hrg1 hlt3 hg1 hs1 hen
      obtain ⟨x', ex, rfl, hwx⟩ := Maps.keyOf_int_inv Tryz.underlying3 hkey
      cases ex
      rw [HR.out.1] at hv
      obtain ⟨zs, hoi, hy⟩ := rowElem_inv hv
      have hkx := keyOf_int_mk Tryz.underlying3 hwx
      have hasx : Maps.has D (.int .i64 x) = true := has_true_of_atKey hat
      have hzs : zs = lowsJ J x := by
        rw [← H2.out.2.2 x, hat .nil, show y = rowDatum .i64 cv zs from congrArg Prod.fst hy, items_row hoi]
      obtain ⟨sa, sg, sc, rfl, hsa, hsc⟩ := slice_form hoi
      have hzl : zs.length ≤ J.length := by rw [hzs]; unfold lowsJ; rw [List.length_map]; exact List.length_filter_le _ _
      have ho3 : Only (· = b) w2 w3 := only_iter HL.out.2 (Nat.le_refl _) hg1
      have hS3 := HL.out.1.only (show Only (· = w2.heap.size) wr w3 from ⟨hg1.os, hg1.tape, hg1.output, hg1.size, fun k hk hn => hg1.block k hk (fun e => hn (Option.some.inj e))⟩) (show ¬ b = w2.heap.size by omega)
      have HM := Lib.hid (And.intro hasx (And.intro hzs (And.intro hsa (And.intro hsc (And.intro hrg1 (And.intro ho3 (And.intro hS3 (And.intro hlx hrg))))))))
      clear hasx hzs hsa hsc hrg1 ho3 hS3 hkey hlx hat hg1 hs1 hwx hoi hy hv hrg
      go_wp2_with fail
      obtain ⟨Sd, hSd⟩ : ∃ Sd : Int → Prop, Sd = fun z => S1 z ∨ ∃ r, Maps.has D (.int .i64 r) = true ∧ left (.int .i64 r) = false ∧ ∃ lo ∈ lowsJ J r, ∃ hi ∈ highsJ J r, z = comb hi lo := ⟨_, rfl⟩
      have HSd := Lib.hid hSd
      clear hSd
      go_loopw [13, 15, 31] (fun _ _ i wq => ∃ k c' : Nat, k ≤ zs.length ∧ i = .int .i64 k ∧ c' ≤ c + 80 * k ∧ SetAt wq b c' (fun z => Sd z ∨ ∃ lo ∈ zs.take k, ∃ hi ∈ highsJ J x, z = comb hi lo) ∧ Only (· = b) w3 wq) (fun _ _ i _ => zs.length - (vI i).toNat)
      case atStart => exact ⟨0, c, Nat.zero_le _, rfl, Nat.le_refl _, HM.out.2.2.2.2.2.2.1.same (fun z => by rw [HSd.out]; simp), Only.refl _ _⟩
      case round =>
        obtain ⟨k, c', hk, rfl, hc', hSk, hok⟩ := hrel
        have hoq : Only (· = b) w2 _ := HM.out.2.2.2.2.2.1.trans hok
        have HK := Lib.hid (And.intro hSk (And.intro hok hoq))
        clear hSk hok
        by_cases hlt : k < zs.length
        · obtain ⟨rfl, sg1, sg2⟩ := HM.out.2.2.1 (by omega)
          have cz := (hoq.cell sg2 (show ¬ sg = b by omega)).trans (HM.out.2.2.2.1 k hlt)
          obtain ⟨lo, hlo⟩ : ∃ lo, lo = zs[k] := ⟨_, rfl⟩
          rw [← hlo] at cz
          have c9 := cell_l (hoq.kept H2.out.1.q3 (by omega)) 0 rfl
          obtain ⟨D2, gD2, iD2⟩ := (H2.out.2.1.kept (grown_only hoq) (fun j e => by cases e; exact ⟨by omega, by omega, by omega⟩)).highs
          have HG := Lib.hid (And.intro hlo iD2)
          clear hlo iD2 hoq
          go_wp2_with (first
            | (at_lookup; refine wpList_lookup_groups _ rfl _ _ 185 rfl 3 31 3 .i64 int_key Tryz.underlying185 (zero_ints _) (w.heap.size + 7) (w.heap.size + 4) J.length D2 rfl gD2 (by unfold maxLen; omega) _ _ rfl hkx ?_; intro v2 zs2 hat2 hoi2 hzl2 hback2; obtain ⟨ta, tg, tc, rfl, hta, htc⟩ := slice_form hoi2; clear hback2)
            | go_in)
          have hz2 : zs2 = highsJ J x := by rw [← HG.out.2 x, hat2, items_row hoi2]
          obtain ⟨Sk, hSk⟩ : ∃ Sk : Int → Prop, Sk = fun z => Sd z ∨ ∃ lo ∈ zs.take k, ∃ hi ∈ highsJ J x, z = comb hi lo := ⟨_, rfl⟩
          have H6 := Lib.hid (And.intro hz2 (And.intro hSk (And.intro hta htc)))
          clear hz2 hSk hta htc hoi2 hat2 gD2 hkx
          go_loopw [15, 39] (fun _ j wp => ∃ k2 c2 : Nat, k2 ≤ zs2.length ∧ j = .int .i64 k2 ∧ c2 ≤ c' + k2 ∧ SetAt wp b c2 (fun z => Sk z ∨ ∃ hi ∈ zs2.take k2, z = comb hi lo) ∧ Only (· = b) wr wp) (fun _ j _ => zs2.length - (vI j).toNat)
          case atStart => exact ⟨0, c', Nat.zero_le _, rfl, Nat.le_refl _, HK.out.1.same (fun z => by rw [H6.out.2.1]; simp), Only.refl _ _⟩
          case round =>
            obtain ⟨k2, c2, hk2, rfl, hc2, hSk2, hop⟩ := hrel
            have hop2 : Only (· = b) w2 _ := HK.out.2.2.trans hop
            have HP := Lib.hid (And.intro hSk2 (And.intro hop hop2))
            clear hSk2 hop
            by_cases hlt2 : k2 < zs2.length
            · obtain ⟨rfl, tg1, tg2⟩ := H6.out.2.2.1 (by omega)
              have cy := (HP.out.2.1.cell tg2 (show ¬ tg = b by omega)).trans (H6.out.2.2.2 k2 hlt2)
              obtain ⟨hi, hhi⟩ : ∃ hi, hi = zs2[k2] := ⟨_, rfl⟩
              rw [← hhi] at cy
              have c5 := cell_l (hop2.kept H2.out.1.q1 (by omega)) 0 rfl
              have HY := Lib.hid hhi
              clear hhi hop2
              go_wp2_with fail
              go_at_call 93
              refine (set_add b c2 wr.heap.size 0 1 _ [comb hi lo] _ (HP.out.1.below ((Below.refl _ _).alloc (Nat.le_refl _) _)) (fun j hj => by
                obtain rfl : j = 0 := by simpa using hj
                exact cell_l (heap_alloc_new wr (.cells [.int .i64 (comb hi lo)].toArray 3)) 0 rfl) (fun z hz => by rw [List.mem_singleton] at hz; rw [hz]; exact comb_wf _ _) (by have := HP.out.1.lt; omega) (by simp) (by simp; omega)).mono ?_
              rintro e w4 ⟨rfl, hs4, ho4⟩
              have o4 : Only (· = b) _ w4 := HP.out.2.1.trans ((Only.of_below ((Below.refl _ _).alloc (Nat.le_refl _) _)).trans ho4)
              have H4 := Lib.hid (And.intro hs4 o4)
              clear hs4 ho4 o4
              go_wp2
              go_roundw
              case rel =>
                refine ⟨k2 + 1, c2 + 1, by omega, by go_num, by omega, H4.out.1.same (fun z => ?_), H4.out.2⟩
                rw [List.take_succ_eq_append_getElem hlt2, ← HY.out]
                simp only [List.mem_append, List.mem_singleton]
                constructor
                · rintro (h | h | ⟨hi', h, e⟩)
                  · exact .inr ⟨hi, .inr rfl, h⟩
                  · exact .inl h
                  · exact .inr ⟨hi', .inl h, e⟩
                · rintro (h | ⟨hi', h | h, e⟩)
                  · exact .inr (.inl h)
                  · exact .inr (.inr ⟨hi', h, e⟩)
                  · exact .inl (h ▸ e)
              case measure => simp [vI]; omega
            · obtain rfl : k2 = zs2.length := by omega
              go_wp2
              go_roundw
              case rel =>
                refine ⟨k + 1, c2, by omega, by go_num, by have := HJl.out x; rw [← H6.out.1] at this; omega, HP.out.1.same (fun z => ?_), HK.out.2.1.trans HP.out.2.1⟩
                rw [List.take_length, List.take_succ_eq_append_getElem hlt, ← HG.out.1, H6.out.2.1, H6.out.1]
                simp only [List.mem_append, List.mem_singleton]
                constructor
                · rintro ((h | ⟨lo', h, e⟩) | h)
                  · exact .inl h
                  · exact .inr ⟨lo', .inl h, e⟩
                  · exact .inr ⟨lo, .inr rfl, h⟩
                · rintro (h | ⟨lo', h | h, e⟩)
                  · exact .inl (.inl h)
                  · exact .inl (.inr ⟨lo', h, e⟩)
                  · exact .inr (h ▸ e)
              case measure => simp [vI]; omega
        · obtain rfl : k = zs.length := by omega
          go_wp2
          go_roundw
          case rel =>
            have hrq := HM.out.2.2.2.2.1.kept (grown_only HK.out.2.1) (fun e => by have := Option.some.inj e; omega) (fun e => by have := Option.some.inj e; omega)
            refine ⟨_, cnt1, c', hrq, by omega, HK.out.1.same (fun z => ?_), HK.out.2.2⟩
            rw [HSd.out, List.take_length, HM.out.2.1]
            constructor
            · rintro ((h | ⟨r, h1, h2, h⟩) | h)
              · exact .inl h
              · exact .inr ⟨r, h1, by rw [h2]; rfl, h⟩
              · exact .inr ⟨x, HM.out.1, by rw [WideAt.sameKey_self (show WideAt.IsKeyLit (.int .i64 x) from trivial)]; simp, h⟩
            · rintro (h | ⟨r, h1, h2, h⟩)
              · exact .inl (.inl h)
              · cases hl : left (.int .i64 r) with
                | false => exact .inl (.inr ⟨r, h1, hl, h⟩)
                | true =>
                  rw [hl] at h2
                  have h3 : (Lit.int .i64 r).sameKey (.int .i64 x) = true := by simpa using h2
                  have e := WideAt.sameKey_eq h3
                  injection e with _ e
                  subst e
                  exact .inr h
          case measure =>
            have hrq := HM.out.2.2.2.2.1.kept (grown_only HK.out.2.1) (fun e => by have := Option.some.inj e; omega) (fun e => by have := Option.some.inj e; omega)
            rw [hrq.left_eq, HM.out.2.2.2.2.2.2.2.2.left_eq]
            exact hlt3
end Go.Proofs.YtkbilipgidcgeaaGreatDoor.Tiny
