/- tls: Module, Thread, At at the example. load: New, Put. load: fetch. load: add. load: collect. load: areas. load: place, its first parts. slices.Clone. load: load. -/
import Derived.Test.YtacaejpamidkcaaGreatDoorR22
import Derived.Test.YtacaejpamidkcaaGreatDoorR20
import Derived.Test.YtacaejpamidkcaaGreatDoorR06
import Derived.Test.YtacaejpamidkcaaGreatDoorR07
set_option linter.unusedVariables false
set_option linter.unusedSimpArgs false
set_option maxRecDepth 100000
set_option maxHeartbeats 2000000
namespace Go.Proofs.YtacaejpamidkcaaGreatDoor
end Go.Proofs.YtacaejpamidkcaaGreatDoor
namespace Go.Proofs.YtacaejpamidkcaaGreatDoor
open Go.RowKit Go.ChangeMaps
theorem Only.setBlk {S : Nat → Prop} {w w1 : World} (h : Only S w w1) (b : Nat) (o : Obj) (hs : S b) : Only S w (setBlock w1 b o) :=
 ⟨h.os, h.tape, h.output, by rw [lk_]; exact h.size, fun k hk hn => by rw [bv_ _ _ (fun e => hn (by rw [e]; exact hs))]; exact h.block k hk hn⟩
end Go.Proofs.YtacaejpamidkcaaGreatDoor
namespace Go.Proofs.YtacaejpamidkcaaGreatDoor.Two
open Go.RowKit Go.ChangeMaps
attribute [local go_sem] ak_ af_ aq_ be_ bf_ bg_ a6_ a7_ a8_ cb_ run_makeMap
attribute [local irreducible] aa_
attribute [local go_sem] dy_ d4_ ds_ eb_ d5_ d6_ ec_ ed_ ee_ ef_ db_ dc_ dd_ de_ df_ dg_ c1_ c2_ c3_ dh_ di_ c4_ dj_ dk_ dl_ dm_
theorem mj_ (w : World) : (zeroValue 4).run Tryz.prog w = .ok (.bool false) w := by kernel_rfl
theorem ts_ (w : World) : (zeroValue 3).run Tryz.prog w = .ok (.int .i64 0) w := by kernel_rfl
theorem rn_ (a b : Int) (w : World) : (Instr.checkKey true 10000 314 (.agg #[.int .i64 a, .int .i64 b])).run Tryz.prog w = .ok () w := by kernel_rfl
theorem tat (b s mo th at_ c : Nat) (x y : Int) (w : World) (hb : w.heap[b]? = some (.cells (cv_ s mo th at_).toArray 164 (0, 0))) (ha : w.heap[at_]? = some (.map #[] c)) :
 Calls Tryz.prog 72 #[.pointer (some ⟨b, 0, none⟩), .int .i64 x, .int .i64 y] w fun e w' => e = .returned (.tuple #[.int .i64 0, .bool false]) ∧ w = w' := by
 unfold cv_ at hb
 have c3 := ab_ hb 3 rfl
 have hl := kg_ (P := Tryz.prog) (key := .agg #[.int .i64 x, .int .i64 y]) true Tryz.underlying162 ha (rn_ x y w) Tryz.underlying314 (ts_ w)
 simp only [if_true] at hl
 clear hb ha
 go_enter Tryz.func72, Tryz.ntmps72
 go_wp2
 go_ret2
 exact ⟨rfl, rfl⟩
theorem tthread (b s mo th at_ : Nat) (B : IB) (w : World) (hb : w.heap[b]? = some (.cells (cv_ s mo th at_).toArray 164 (0, 0))) (hm : w.heap[mo]? = some (.map #[⟨.int .i64 0, .agg (aa_ B), 0⟩] 1)) (ht : w.heap[th]? = some (.map #[] 0)) :
 Calls Tryz.prog 70 #[.pointer (some ⟨b, 0, none⟩), .int .i64 0] w fun e w' => e = .returned (.int .i64 0) ∧ Only (· = th) w w' ∧ w'.heap[th]? = some (.map #[⟨.int .i64 0, .bool true, 0⟩] 1) := by
 have hb' := hb
 unfold cv_ at hb'
 have c1 := ab_ hb' 1 rfl
 have c2 := ab_ hb' 2 rfl
 have hl := iu_ (P := Tryz.prog) (key := .int .i64 0) false Tryz.underlying161 ht Tryz.underlying3 rfl (mj_ w) rfl
 have hu := g7_ (P := Tryz.prog) (key := .int .i64 0) (val := .bool true) Tryz.underlying161 ht Tryz.underlying3 rfl rfl
 simp only [Bool.false_eq_true, if_false] at hl
 obtain ⟨W, hW⟩ : ∃ W, W = setBlock w th (.map ((#[] : Array MapEntry).push ⟨.int .i64 0, .bool true, 0⟩) (0 + 1)) := ⟨_, rfl⟩
 rw [← hW] at hu
 have nbt : b ≠ th := fun e => by subst e; rw [hb] at ht; cases ht
 have nmt : mo ≠ th := fun e => by subst e; rw [hm] at ht; simp at ht
 have kb : W.heap[b]? = some (.cells (cv_ s mo th at_).toArray 164 (0, 0)) := by rw [hW, bv_ _ _ nbt]; exact hb
 have km : W.heap[mo]? = some (.map #[⟨.int .i64 0, .agg (aa_ B), 0⟩] 1) := by rw [hW, bv_ _ _ nmt]; exact hm
 have kt : W.heap[th]? = some (.map #[⟨.int .i64 0, .bool true, 0⟩] 1) := by rw [hW]; exact e9_ (lt_of_block ht) _
 have ko : Only (· = th) w W := by rw [hW]; exact (Only.refl _ w).setBlk th _ rfl
 have d1 : W.cell? ⟨b, 1, none⟩ = some (.map (some mo)) := by unfold cv_ at kb; exact ab_ kb 1 rfl
 have HK := h4_ kb km kt ko
 clear hb hm ht hb' hW kb km kt ko nbt nmt
 go_enter Tryz.func70, Tryz.ntmps70
 go_wp2_with (go_at_call 163; refine (keysM _ _).mono ?_; rintro e wz ⟨rfl, rfl⟩)
 refine (rj_ W.heap.size mo 0 (.agg (aa_ B)) _ (al_ (heap_alloc_new _ _) 0 rfl) (by simp) (ae_ HK.out.2.1)).mono ?_
 rintro e w1 ⟨g, cap, rfl, hown, hb1⟩
 have x0 := bx_ hown
 have HS := h1_ (aw_ ((Below.refl _ _).alloc (Nat.le_refl _) _) hb1)
 have HM := h1_ (hown)
 clear hown hb1
 go_wp2
 refine wp_loop_rounds 2 ?_
 rw [rounds_succ]
 go_wp2_with (go_at_call 164; refine (tmake b s mo th at_ 0 B _ (at_b HS.out HK.out.1) (at_b HS.out HK.out.2.1)).mono ?_; rintro e w2 ⟨rfl, hb2⟩; have H2 := h1_ hb2; clear hb2)
 rw [rounds_succ]
 go_wp2
 go_ret
 obtain ⟨kb, km, kt, ko⟩ := HK.out
 have hB := HS.out.trans (H2.out.mono HS.out.size)
 exact ⟨rfl, ko.call hB, at_b hB kt⟩
theorem tmodule (b s mo th at_ : Nat) (B : IB) (hsz : B.bytes.size = 256) (w : World) (hb : w.heap[b]? = some (.cells (cv_ s mo th at_).toArray 164 (0, 0))) (hm : w.heap[mo]? = some (.map #[] 0)) (ht : w.heap[th]? = some (.map #[] 0)) (nmt : mo ≠ th) (hD : a5_ w B.gd) :
 Calls Tryz.prog 224 #[.pointer (some ⟨b, 0, none⟩), .int .i64 0, .agg (aa_ B)] w fun e w' => e = .returned (.int .i64 0) ∧ Only (· = mo) w w' ∧ w'.heap[mo]? = some (.map #[⟨.int .i64 0, .agg (aa_ B), 0⟩] 1) := by
 have lb := lt_of_block hb
 have HS := h1_ hsz
 have HH := h4_ hb hm ht nmt
 have HL0 := h1_ (heap_alloc_new w (.cells (aa_ B) 52))
 have HD := h1_ (hD.below ((Below.refl w.heap.size w).alloc (Nat.le_refl _) (.cells (aa_ B) 52)))
 clear hb hm ht nmt hsz hD
 go_enter Tryz.func224, Tryz.ntmps224
 go_upto_region 3 with (first
  | (refine bp_ (by rfl) 52 (.tmp 5) rfl w.heap.size rfl 52 (aa_ B) (0, 0) _ HL0.out Tryz.underlying52 rfl (au_ B) ?_)
  | (go_at_call 33; refine (tq_ B HS.out _ HD.out).mono ?_; rintro e w1 ⟨rfl, hb1⟩; have H1 := h1_ hb1; clear hb1))
 have hs1 := eo_ H1.out
 have hB1 := aw_ ((Below.refl _ _).alloc (Nat.le_refl _) _) H1.out
 obtain ⟨hb, hm, ht, nmt⟩ := HH.out
 have kb := at_b hB1 hb
 have km := at_b hB1 hm
 have kt := at_b hB1 ht
 have kl := at_b H1.out HL0.out
 have lmo := lt_of_block hm
 have hl := iu_ (P := Tryz.prog) (key := .int .i64 0) true Tryz.underlying160 km Tryz.underlying3 rfl (wu_ w1) rfl
 simp only [if_true] at hl
 have c1 := by unfold cv_ at kb; exact ab_ kb 1 rfl
 have HK := h6_ hB1 kb km kt kl nmt
 clear hb hm ht nmt hB1 kb km kt kl HH HL0 H1
 unfold tr_ at hl
 go_upto_region 6 with (((with_reducible refine ad_ ?_); refine sr_ rfl rfl (h := ?_); (try simp only [World.setRow_alloc_new])))
 obtain ⟨hB1, kb, km, kt, kl, nmt⟩ := HK.out
 refine ac_ fun V hV => ?_
 have hBV : Below w1.heap.size w1 V := by rw [← hV]; go_grown
 have vb := at_b hBV kb
 have vm := at_b hBV km
 have vt := at_b hBV kt
 have vl := at_b hBV kl
 have hB := hB1.trans (hBV.mono hB1.size)
 clear hV hBV kb km kt kl hB1 HK hl c1
 have vb' := vb
 unfold cv_ at vb'
 refine wr_ [.pt b 0, .pt b 0, .pt b 1, .val (.map (some mo)), .val (.int .i64 0), .val (.agg (aa_ B))] (by kernel_rfl) (by kernel_rfl) ?_ ?_
 · simp only [ck_, List.take, List.length]
   refine ⟨?_, ?_, ?_, ?_, ?_, ?_, ?_⟩
   all_goals first | trivial | (intro a w2 hb2 hf hd)
   all_goals have hf0 : zp_ a 0 b 0 := (hf 0).trans rfl
   all_goals have hf1 : z_ a 1 (.int .i64 0) := (hf 1).trans rfl
   all_goals have hf5 : zp_ a 5 w.heap.size 0 := (hf 5).trans rfl
   · exact as_ _ rfl ⟨hf0, fun h => by cases h⟩
   · have h0 : z_ a 28 _ := hd 0
     exact gp_ (by simp [execOp, h0, go_sem])
   · have h0 : z_ a 29 _ := hd 1
     exact gp_ (by simp [execOp, h0, go_sem])
   · have h0 : z_ a 30 _ := hd 2
     have h1 := ab_ (at_b hb2 vb') 1 rfl
     exact gp_ (by simp [execOp, h0, h1, go_sem])
   · exact as_ _ rfl ⟨hf1, fun h => by cases h⟩
   · exact c9_ 5 52 rfl w.heap.size hf5 _ _ _ _ (at_b hb2 vl) Tryz.underlying52 rfl (au_ B) ⟨rfl, fun h => by cases h⟩
 · intro f w2 hb2 hs _ _
   have g31 : f 31 = _ := hs 3 (by simp)
   have g32 : f 32 = _ := hs 4 (by simp)
   have g33 : f 33 = _ := hs 5 (by simp)
   rw [show (List.range (List.length _)).map (a1_ _) = [28, 29, 30, 31, 32, 33] from by kernel_rfl]
   simp only [dw_, List.foldl, Act.put, List.drop, List.length, g31, g32, g33, List.setIfInBounds_toArray, List.set_cons_zero, List.set_cons_succ]
   have xm := at_b hb2 vm
   have hu := g7_ (P := Tryz.prog) (key := .int .i64 0) (val := .agg (aa_ B)) Tryz.underlying160 xm Tryz.underlying3 rfl rfl
   obtain ⟨X, hX⟩ : ∃ X, X = setBlock w2 mo (.map ((#[] : Array MapEntry).push ⟨.int .i64 0, .agg (aa_ B), 0⟩) (0 + 1)) := ⟨_, rfl⟩
   rw [← hX] at hu
   have kb := at_b hb2 vb
   have kt := at_b hb2 vt
   have nbm : b ≠ mo := fun e => by subst e; rw [kb] at xm; cases xm
   have yb : X.heap[b]? = some (.cells (cv_ s mo th at_).toArray 164 (0, 0)) := by rw [hX, bv_ _ _ nbm]; exact kb
   have yt : X.heap[th]? = some (.map #[] 0) := by rw [hX, bv_ _ _ (Ne.symm nmt)]; exact kt
   have ym : X.heap[mo]? = some (.map #[⟨.int .i64 0, .agg (aa_ B), 0⟩] 1) := by rw [hX]; exact e9_ (lt_of_block xm) _
   have yo : Only (· = mo) w X := by rw [hX]; exact (Only.of_below (hB.trans (hb2.mono hB.size))).setBlk mo _ rfl
   have c2 : X.cell? ⟨b, 2, none⟩ = some (.map (some th)) := by unfold cv_ at yb; exact ab_ yb 2 rfl
   have HX := h3_ yt ym yo
   clear hs g31 g32 g33 xm kb kt nbm yb yt ym yo hX hb2 vb vm vt vl vb' hB
   go_wp2_with (go_at_call 344; refine (keysT _ _).mono ?_; rintro e wz ⟨rfl, rfl⟩)
   refine (ov_ X.heap.size th 0 _ (al_ (heap_alloc_new _ _) 0 rfl) (by simp) (ae_ HX.out.1)).mono ?_
   rintro e w3 ⟨rfl, hb3⟩
   have H3 := h1_ (aw_ ((Below.refl _ _).alloc (Nat.le_refl _) _) hb3)
   clear hb3
   (go_wp2; repeat (any_goals (first | (refine wp_loop_rounds 2 ?_; rw [rounds_succ]; go_wp2) | (rw [rounds_succ]; go_wp2))))
   go_ret
   obtain ⟨yt, ym, yo⟩ := HX.out
   exact ⟨rfl, yo.call H3.out, at_b H3.out ym⟩
end Go.Proofs.YtacaejpamidkcaaGreatDoor.Two
namespace Go.Proofs.YtacaejpamidkcaaGreatDoor
namespace Two
open Go.RowKit Go.ChangeMaps
attribute [local go_sem] ak_ af_ aq_ be_ bf_ bg_ a6_ a7_ a8_ cb_ run_makeMap
attribute [local irreducible] aa_
attribute [local go_sem] dy_ d4_ ds_ eb_ d5_ d6_ ec_ ed_ ee_ ef_ db_ dc_ dd_ de_ df_ dg_ c1_ c2_ c3_ dh_ di_ c4_ dj_ dk_ dl_ dm_
def bj_ (s b st : Nat) (mods order : Value) : List Value := [.pointer (some ⟨s, 0, none⟩), .pointer (some ⟨b, 0, none⟩), .map (some st), .bool false, mods, order]
theorem lput (l s b st : Nat) (mods order : Value) (B : IB) (w : World) (hl : w.heap[l]? = some (.cells (bj_ s b st mods order).toArray 167 (0, 0))) (hs : w.heap[st]? = some (.map #[] 0)) :
 Calls Tryz.prog 65 #[.pointer (some ⟨l, 0, none⟩), .agg (aa_ B)] w fun e w' => e = .returned (.tuple #[]) ∧ Only (· = st) w w' ∧ w'.heap[st]? = some (.map #[⟨.string labS, .agg (aa_ B), 0⟩] 1) := by
 have hg := heap_alloc_new w (.cells (aa_ B) 52)
 have kl := ae_ (o' := .cells (aa_ B) 52) hl
 have ks := ae_ (o' := .cells (aa_ B) 52) hs
 have HS := h1_ ks
 unfold bj_ at kl
 clear hl hs ks
 go_enter Tryz.func65, Tryz.ntmps65
 go_upto_region 1 with fail
 refine wr_ [.pt l 0, .pt l 0, .pt l 2, .val (.map (some st)), .pt w.heap.size 0, .val (.string labS), .val (.agg (aa_ B))] (by kernel_rfl) (by kernel_rfl) ?_ ?_
 · simp only [ck_, List.take, List.length]
   refine ⟨?_, ?_, ?_, ?_, ?_, ?_, ?_, ?_⟩
   all_goals first | trivial | (intro a wr hb hf hd)
   all_goals have hf0 : zp_ a 0 l 0 := (hf 0).trans rfl
   all_goals have hf3 : zp_ a 3 w.heap.size 0 := (hf 3).trans rfl
   · exact as_ _ rfl ⟨hf0, fun h => by cases h⟩
   · have h4 : z_ a 4 _ := hd 0
     exact gp_ (by simp [execOp, h4, go_sem])
   · have h5 : z_ a 5 _ := hd 1
     exact gp_ (by simp [execOp, h5, go_sem])
   · have h6 : z_ a 6 _ := hd 2
     have hc := ab_ (at_b hb kl) 2 rfl
     exact gp_ (by simp [execOp, h6, hc, go_sem])
   · exact gp_ (by simp [execOp, hf3, go_sem])
   · have h8 : z_ a 8 _ := hd 4
     have hc := al_ (v := .string labS) (at_b hb hg) 0 (dy_ B)
     exact gp_ (by simp [execOp, h8, hc, go_sem])
   · exact c9_ 3 52 rfl w.heap.size hf3 _ _ _ _ (at_b hb hg) Tryz.underlying52 rfl (au_ B) ⟨rfl, fun h => by cases h⟩
 · intro fv w2 hb2 hs hn hne
   rw [facv hs [4, 5, 6, 7, 8, 9, 10] (by kernel_rfl)]
   simp only [actG, Act.put, List.drop, List.length, List.setIfInBounds_toArray, List.set_cons_zero, List.set_cons_succ]
   clear hs hn hne
   have xs := at_b hb2 HS.out
   have hu := g7_ (P := Tryz.prog) (key := .string labS) (val := .agg (aa_ B)) Tryz.underlying165 xs Tryz.underlying9 trivial rfl
   have ho : Only (· = st) w (setBlock w2 st (.map ((#[] : Array MapEntry).push ⟨.string labS, .agg (aa_ B), 0⟩) (0 + 1))) := (Only.of_below (aw_ ((Below.refl _ _).alloc (Nat.le_refl _) _) hb2)).setBlk st _ rfl
   have hm := e9_ (lt_of_block xs) (.map ((#[] : Array MapEntry).push ⟨.string labS, .agg (aa_ B), 0⟩) (0 + 1))
   clear xs hb2
   go_wp2
   go_end0
   exact ⟨rfl, ho, hm⟩
theorem lnew (s b g : Nat) (B : IB) (w : World) (hg : w.heap[g]? = some (.cells (aa_ B) 52 (0, 0))) :
 Calls Tryz.prog 34 #[.pointer (some ⟨s, 0, none⟩), .pointer (some ⟨b, 0, none⟩), .slice (some ⟨g, 0, none⟩) 1 1, .bool false] w fun e w' =>
  e = .returned (.pointer (some ⟨w.heap.size + 1, 0, none⟩)) ∧ Below w.heap.size w w' ∧ w'.heap[w.heap.size + 1]? = some (.cells (bj_ s b w.heap.size (.slice none 0 0) (.slice none 0 0)).toArray 167 (0, 0)) ∧
   w'.heap[w.heap.size]? = some (.map #[⟨.string labS, .agg (aa_ B), 0⟩] 1) := by
 have lg := lt_of_block hg
 have HG := h1_ hg
 clear hg
 go_enter Tryz.func34, Tryz.ntmps34
 go_wp2
 refine wp_loop_rounds 2 ?_
 rw [rounds_succ]
 refine ac_ fun W hW => ?_
 have kl : W.heap[w.heap.size + 1]? = some (.cells (bj_ s b w.heap.size (.slice none 0 0) (.slice none 0 0)).toArray 167 (0, 0)) := by rw [← hW]; exact heap_alloc2_new _ _ _
 have km : W.heap[w.heap.size]? = some (.map #[] 0) := by rw [← hW]; exact ae_ (heap_alloc_new _ _)
 have hB : Below w.heap.size w W := by rw [← hW]; go_grown
 have kg := at_b hB HG.out
 have HK := h4_ kl km hB kg
 clear kl km hB kg hW
 go_upto_region 5 with (first
  | (refine wpList_load_row rfl 52 (.tmp 22) rfl g rfl 52 (aa_ B) (0, 0) _ HK.out.2.2.2 Tryz.underlying52 rfl (au_ B) ?_)
  | ((with_reducible refine ad_ ?_); refine sr_ rfl rfl (hi := au_ B) (hold := by unfold aa_; rfl) (h1 := eq_ B) (h := ?_); (try simp only [World.setRow_alloc_new])))
 refine ac_ fun V hV => ?_
 have kv : V.heap[W.heap.size]? = some (.cells (aa_ B) 52 (0, 0)) := by rw [← hV]; exact heap_alloc_new _ _
 have vl : V.heap[w.heap.size + 1]? = some (.cells (bj_ s b w.heap.size (.slice none 0 0) (.slice none 0 0)).toArray 167 (0, 0)) := by rw [← hV]; exact ae_ HK.out.1
 have vm : V.heap[w.heap.size]? = some (.map #[] 0) := by rw [← hV]; exact ae_ HK.out.2.1
 have vB : Below w.heap.size w V := by rw [← hV]; exact HK.out.2.2.1.alloc HK.out.2.2.1.size _
 have HV := h4_ kv vl vm vB
 clear kv vl vm vB hV HK
 go_wp2_with (first
  | (refine wpList_load_row rfl 52 (.tmp 11) rfl W.heap.size rfl 52 (aa_ B) (0, 0) _ HV.out.1 Tryz.underlying52 rfl (au_ B) ?_)
  | (go_at_call 65; refine (lput (w.heap.size + 1) s b w.heap.size (.slice none 0 0) (.slice none 0 0) B V HV.out.2.1 HV.out.2.2.1).mono ?_; rintro e W1 ⟨rfl, ho1, hm1⟩; have H1 := h2_ ho1 hm1; clear ho1 hm1))
 rw [rounds_succ]
 go_wp2
 go_ret
 obtain ⟨kv, kl, km, hB⟩ := HV.out
 obtain ⟨ho1, hm1⟩ := H1.out
 have h2 : Only (fun b => w.heap.size ≤ b) w W1 := (Only.of_below hB).then ho1 (fun b _ hb => by omega)
 exact ⟨rfl, h2.below (Nat.le_refl _) (fun k h => h), ho1.kept kl (by omega), hm1⟩
end Two
namespace Two
open Go.RowKit Go.ChangeMaps
attribute [local go_sem] ak_ af_ aq_ be_ bf_ bg_ a6_ a7_ a8_ cb_ run_makeMap
attribute [local irreducible] aa_
attribute [local go_sem] dy_ d4_ ds_ eb_ d5_ d6_ ec_ ed_ ee_ ef_ db_ dc_ dd_ de_ df_ dg_ c1_ c2_ c3_ dh_ di_ c4_ dj_ dk_ dl_ dm_
theorem lfetch (l s b st : Nat) (mods order : Value) (B : IB) (hsz : B.bytes.size = 256) (w : World) (hl : w.heap[l]? = some (.cells (bj_ s b st mods order).toArray 167 (0, 0))) (hs : w.heap[st]? = some (.map #[⟨.string labS, .agg (aa_ B), 0⟩] 1)) (hD : a5_ w B.gd) :
 Calls Tryz.prog 342 #[.pointer (some ⟨l, 0, none⟩), .string labS, .bool true] w fun e w' => e = .returned (.tuple #[.agg (aa_ B), .int .i64 0]) ∧ Below w.heap.size w w' := by
 have HS := h1_ hsz
 have HD := h1_ hD
 have ll := lt_of_block hl
 unfold bj_ at hl
 have c2 := ab_ hl 2 rfl
 have HH := h2_ hl hs
 clear hl hs hsz hD
 go_enter Tryz.func342, Tryz.ntmps342
 go_upto_region 1 with fail
 refine ac_ fun V hV => ?_
 have vB : Below w.heap.size w V := by rw [← hV]; go_grown
 have vz : ∃ z : Array Value, z.size = 26 ∧ V.heap[w.heap.size]? = some (.cells z 52 (0, 0)) := by rw [← hV]; exact ⟨_, rfl, heap_alloc_new _ _⟩
 obtain ⟨z, hz, vz⟩ := vz
 clear hV
 have vl := (vB.block _ ll).trans HH.out.1
 have vs := at_b vB HH.out.2
 have e2 := ab_ vl 2 rfl
 have hlk := tc_ (P := Tryz.prog) (key := .string labS) true 0 Tryz.underlying165 vs Tryz.underlying9 trivial (v := .agg (aa_ B)) rfl
 simp only [if_true] at hlk
 have HV := h2_ vB vz
 clear vB vz vl vs c2 HH
 go_upto_region 2 with ((with_reducible refine ad_ ?_); refine sr_ rfl rfl (hi := au_ B) (hold := by unfold aa_; rfl) (h1 := eq_ B) (h := ?_); (try simp only [World.setRow_alloc_new]))
 refine ac_ fun X hX => ?_
 have x8 : X.heap[V.heap.size]? = some (.cells (aa_ B) 52 (0, 0)) := by rw [← hX]; exact heap_alloc_new _ _
 have xz : X.heap[w.heap.size]? = some (.cells z 52 (0, 0)) := by rw [← hX]; exact ae_ HV.out.2
 have xB : Below w.heap.size w X := by rw [← hX]; exact HV.out.1.alloc HV.out.1.size _
 have HX := h3_ x8 xz xB
 clear x8 xz xB hX e2 hlk
 go_upto_region 6 with (first
  | (refine wpList_load_row rfl 52 (.tmp 8) rfl V.heap.size rfl 52 (aa_ B) (0, 0) _ HX.out.1 Tryz.underlying52 rfl (au_ B) ?_)
  | (go_at_call 33; refine (tq_ B HS.out _ (HD.out.below HX.out.2.2)).mono ?_; rintro e w1 ⟨rfl, hb1⟩; have k8 := at_b hb1 HX.out.1; have H1 := h1_ hb1; clear hb1))
 have kz := at_b H1.out HX.out.2.1
 have kB := HX.out.2.2.trans (H1.out.mono HX.out.2.2.size)
 have c1 := al_ (v := .bool false) k8 1 (d4_ B)
 have c16 := al_ (v := .int .i64 0) k8 16 (c1_ B)
 have HK := h3_ k8 kz kB
 clear k8 kz kB HX H1 HV
 go_wp2_with (first
  | (refine wpList_load_row rfl 52 (.tmp 8) rfl V.heap.size rfl 52 (aa_ B) (0, 0) _ HK.out.1 Tryz.underlying52 rfl (au_ B) ?_)
  | ((with_reducible refine ad_ ?_); refine wpList_store_row rfl 52 _ _ rfl _ _ rfl rfl _ _ HK.out.2.1 (au_ B) (by rw [hz]; unfold aa_; rfl) (eq_ B) ?_))
 obtain ⟨k8, kz, kB⟩ := HK.out
 refine bodyPost_ret (a3_ rfl _ _ w.heap.size 52 (aa_ B) (0, 0) _ rfl (setRow_heap w1 w.heap.size z (aa_ B) _ _ kz) Tryz.underlying52 rfl (au_ B)) rfl ⟨rfl, ?_⟩
 exact ((Only.of_below_le kB (fun k _ h => h) : Only (fun b => w.heap.size ≤ b) w w1).setRow w.heap.size _ (.inl (Nat.le_refl _))).below (Nat.le_refl _) (fun k h => h)
end Two
namespace Two
open Go.RowKit Go.ChangeMaps
attribute [local go_sem] ak_ af_ aq_ be_ bf_ bg_ a6_ a7_ a8_ cb_ run_makeMap
def modC (B : IB) (base count : Int) : List Value := (aa_ B).toList ++ [.int .i64 base, .int .i64 0, .int .i64 count, .slice none 0 0, .bool false, .int .i64 0]
def ji_ : Array Value := #[.string ⟨#[]⟩, .bool false, .int .i64 0, .int .i64 0, .int .i64 0, .string ⟨#[]⟩, .string ⟨#[]⟩, .int .i64 0, .slice none 0 0, .slice none 0 0, .slice none 0 0, .slice none 0 0, .slice none 0 0, .slice none 0 0, .slice none 0 0, .slice none 0 0,
 .int .i64 0, .slice none 0 0, .slice none 0 0, .slice none 0 0, .slice none 0 0, .slice none 0 0, .slice none 0 0, .slice none 0 0, .slice none 0 0, .slice none 0 0, .int .i64 0, .int .i64 0, .int .i64 0, .slice none 0 0, .bool false, .int .i64 0]
theorem info_mod : (Tryz.prog.info? 127).map (fun i => (i.zero, i.size, i.bytes)) = some (some (.agg ji_), 32, 568) := by kernel_rfl
theorem ix_ (B : IB) (x y : Int) : (modC B x y).length = 32 := by unfold modC aa_; rfl
theorem iy_ (B : IB) (x y : Int) : ∀ u ∈ modC B x y, u.oneCell' = true := by unfold modC aa_; simp [Value.oneCell']
theorem tt_ (B : IB) (o : Oper) (a : Act) (w : World) (ho : o.op = .build 127 #[(0, .tmp 38), (2, .tmp 39), (6, .tmp 43)]) (h38 : a.tmps[(38 : Nat)]?.getD undef = .agg (aa_ B)) (h39 : a.tmps[(39 : Nat)]?.getD undef = .int .i64 0) (h43 : a.tmps[(43 : Nat)]?.getD undef = .int .i64 0) :
 (execOp a.eval o).run Tryz.prog w = .ok (.value (.agg (modC B 0 0).toArray)) w := by
 unfold modC
 unfold aa_ at *
 simp [execOp, ho, h38, h39, h43, go_sem]
theorem ki_ (B : IB) (o : Oper) (a : Act) (w : World) (ho : o.op = .buildSlice 128 1 #[(0, .tmp 44)]) (h44 : a.tmps[(44 : Nat)]?.getD undef = .agg (modC B 0 0).toArray) :
 (execOp a.eval o).run Tryz.prog w = .ok (.value (sl 1 w.heap.size)) (w.alloc (.cells (modC B 0 0).toArray 127)) := by
 unfold modC aa_ at *
 unfold sl
 simp [execOp, ho, h44, go_sem]
attribute [local irreducible] aa_
theorem ladd (l s b st t nm : Nat) (mods order : Value) (B : IB) (hsz : B.bytes.size = 256) (w : World) (hl : w.heap[l]? = some (.cells (bj_ s b st mods order).toArray 167 (0, 0))) (hs : w.heap[st]? = some (.map #[⟨.string labS, .agg (aa_ B), 0⟩] 1))
 (ht : w.heap[t]? = some (.cells [.int .i64 0, .slice none 0 0, .map (some nm), .slice none 0 0].toArray 293 (0, 0))) (hn : w.heap[nm]? = some (.map #[] 0)) (hD : a5_ w B.gd) :
 Calls Tryz.prog 220 #[.pointer (some ⟨l, 0, none⟩), .pointer (some ⟨t, 0, none⟩), .string labS, .int .i64 0, .bool true] w fun e w' => e = .returned (.int .i64 0) ∧ Only (fun b => b = t ∨ b = nm) w w' ∧
  ∃ g cap, w'.heap[t]? = some (.cells [.int .i64 0, .slice (some ⟨g, 0, none⟩) 1 cap, .map (some nm), .slice none 0 0].toArray 293 (0, 0)) ∧ w'.ownsRow w.heap.size 127 32 (.slice (some ⟨g, 0, none⟩) 1 cap) 1 (modC B 0 0) := by
 have HH := h4_ hl hs ht hn
 have ltt := lt_of_block ht
 have lnm := lt_of_block hn
 clear hl hs ht hn
 have HS := h1_ hsz
 have HD := h1_ hD
 clear hsz hD
 go_enter Tryz.func220, Tryz.ntmps220
 go_upto_region 4 with (first
  | (go_at_call 342; refine (lfetch l s b st mods order B HS.out _ HH.out.1 HH.out.2.1 HD.out).mono ?_; rintro e w1 ⟨rfl, hb1⟩; have H1 := h1_ hb1; clear hb1)
  | ((with_reducible refine ad_ ?_); refine sr_ rfl rfl (hi := au_ B) (hold := by unfold aa_; rfl) (h1 := eq_ B) (h := ?_); (try simp only [World.setRow_alloc_new])))
 refine ac_ fun V hV => ?_
 obtain ⟨hl, hs, ht, hn⟩ := HH.out
 have vB : Below w.heap.size w V := by rw [← hV]; exact H1.out.alloc H1.out.size _
 have vg : V.heap[w1.heap.size]? = some (.cells (aa_ B) 52 (0, 0)) := by rw [← hV]; exact heap_alloc_new _ _
 have vt := at_b vB ht
 have vn := at_b vB hn
 clear hV hl hs ht hn HH HS
 refine wr_ [.pt t 0, .pt t 0, .pt t 2, .val (.map (some nm)), .val (.string labS), .pt t 0, .pt t 0, .pt t 1, .val (.slice none 0 0), .val (.int .i64 0)] (by kernel_rfl) (by kernel_rfl) ?_ ?_
 · simp only [ck_, List.take, List.length]
   refine ⟨?_, ?_, ?_, ?_, ?_, ?_, ?_, ?_, ?_, ?_, ?_⟩
   all_goals first | trivial | (intro a wr hb hf hd)
   all_goals have hf1 : zp_ a 1 t 0 := (hf 1).trans rfl
   all_goals have hf2 : z_ a 2 (.string labS) := (hf 2).trans rfl
   · exact as_ _ rfl ⟨hf1, fun h => by cases h⟩
   · have h23 : z_ a 23 _ := hd 0
     exact gp_ (by simp [execOp, h23, go_sem])
   · have h24 : z_ a 24 _ := hd 1
     exact gp_ (by simp [execOp, h24, go_sem])
   · have h25 : z_ a 25 _ := hd 2
     have hc := ab_ (at_b hb vt) 2 rfl
     exact gp_ (by simp [execOp, h25, hc, go_sem])
   · exact as_ _ rfl ⟨hf2, fun h => by cases h⟩
   · exact as_ _ rfl ⟨hf1, fun h => by cases h⟩
   · have h28 : z_ a 28 _ := hd 5
     exact gp_ (by simp [execOp, h28, go_sem])
   · have h29 : z_ a 29 _ := hd 6
     exact gp_ (by simp [execOp, h29, go_sem])
   · have h30 : z_ a 30 _ := hd 7
     have hc := ab_ (at_b hb vt) 1 rfl
     exact gp_ (by simp [execOp, h30, hc, go_sem])
   · have h31 : z_ a 31 _ := hd 8
     exact gp_ (by simp [execOp, h31, go_sem])
 · intro fv w2 hb2 hs hn hne
   rw [facv hs [23, 24, 25, 26, 27, 28, 29, 30, 31, 32] (by kernel_rfl)]
   simp only [actG, Act.put, List.drop, List.length, List.setIfInBounds_toArray, List.set_cons_zero, List.set_cons_succ]
   clear hs hn hne
   have xn := at_b hb2 vn
   have hu := g7_ (P := Tryz.prog) (key := .string labS) (val := .int .i64 0) Tryz.underlying290 xn Tryz.underlying9 trivial rfl
   obtain ⟨X, hX⟩ : ∃ X, X = setBlock w2 nm (.map ((#[] : Array MapEntry).push ⟨.string labS, .int .i64 0, 0⟩) (0 + 1)) := ⟨_, rfl⟩
   rw [← hX] at hu
   have ntn : t ≠ nm := fun e => by subst e; rw [vt] at vn; cases vn
   have xt := at_b hb2 vt
   have xg := at_b hb2 vg
   have nwn : w1.heap.size ≠ nm := by have := H1.out.size; omega
   have yt : X.heap[t]? = some (.cells [.int .i64 0, .slice none 0 0, .map (some nm), .slice none 0 0].toArray 293 (0, 0)) := by rw [hX, bv_ _ _ ntn]; exact xt
   have yg : X.heap[w1.heap.size]? = some (.cells (aa_ B) 52 (0, 0)) := by rw [hX, bv_ _ _ nwn]; exact xg
   have yo : Only (fun b => b = t ∨ b = nm) w X := by rw [hX]; exact (Only.of_below (vB.trans (hb2.mono vB.size))).setBlk nm _ (.inr rfl)
   clear xn ntn xt xg nwn hX hb2 vB vg vt vn
   go_upto_region 5 with fail
   refine wr_ [.pt t 0, .pt t 0, .pt t 0, .pt t 1, .val (.slice none 0 0), .val (.agg (aa_ B)), .val (.int .i64 0), .pt t 0, .pt t 0, .pt t 0, .val (.int .i64 0), .val (.agg (modC B 0 0).toArray), .blk (sl 1) (.cells (modC B 0 0).toArray 127 (0, 0)), .more (fun v w' => ∃ g cap, v = .slice (some ⟨g, 0, none⟩) 1 cap ∧ w'.ownsRow X.heap.size 127 32 (.slice (some ⟨g, 0, none⟩) 1 cap) 1 (modC B 0 0)) (fun v w' w'' hb h => by obtain ⟨g, cap, h1, h3⟩ := h; exact ⟨g, cap, h1, ai_ h3 hb⟩)] (by kernel_rfl) (by kernel_rfl) ?_ ?_
   · simp only [ck_, List.take, List.length]
     refine ⟨?_, ?_, ?_, ?_, ?_, ?_, ?_, ?_, ?_, ?_, ?_, ?_, ?_, ?_, ?_⟩
     all_goals first | trivial | (intro a wr hb hf hd)
     all_goals have hf1 : zp_ a 1 t 0 := (hf 1).trans rfl
     all_goals have hf3 : z_ a 3 (.int .i64 0) := (hf 3).trans rfl
     all_goals have hf11 : zp_ a 11 w1.heap.size 0 := (hf 11).trans rfl
     · exact as_ _ rfl ⟨hf1, fun h => by cases h⟩
     · exact as_ _ rfl ⟨hf1, fun h => by cases h⟩
     · have h34 : z_ a 34 _ := hd 1
       exact gp_ (by simp [execOp, h34, go_sem])
     · have h35 : z_ a 35 _ := hd 2
       exact gp_ (by simp [execOp, h35, go_sem])
     · have h36 : z_ a 36 _ := hd 3
       have hc := ab_ (at_b hb yt) 1 rfl
       exact gp_ (by simp [execOp, h36, hc, go_sem])
     · exact c9_ 11 52 rfl w1.heap.size hf11 _ _ _ _ (at_b hb yg) Tryz.underlying52 rfl (au_ B) ⟨rfl, fun h => by cases h⟩
     · exact as_ _ rfl ⟨hf3, fun h => by cases h⟩
     · exact as_ _ rfl ⟨hf1, fun h => by cases h⟩
     · have h40 : z_ a 40 _ := hd 7
       exact gp_ (by simp [execOp, h40, go_sem])
     · have h41 : z_ a 41 _ := hd 8
       exact gp_ (by simp [execOp, h41, go_sem])
     · have h42 : z_ a 42 _ := hd 9
       have hc := ab_ (at_b hb yt) 0 rfl
       exact gp_ (by simp [execOp, h42, hc, go_sem])
     · have h38 : z_ a 38 _ := hd 5
       have h39 : z_ a 39 _ := hd 6
       have h43 : z_ a 43 _ := hd 10
       exact av_ (tt_ B _ _ _ rfl h38 h39 h43) (Below.refl _ _) ⟨rfl, fun h => by cases h⟩
     · have h44 : z_ a 44 _ := hd 11
       exact av_ (ki_ B _ _ _ rfl h44) ((Below.refl _ _).alloc (Nat.le_refl _) _) ⟨⟨_, rfl, heap_alloc_new _ _⟩, fun _ b hb => b2_ hb⟩
     · have h37 : z_ a 37 _ := hd 4
       obtain ⟨q, h45, hq⟩ : ∃ q, a.tmps[(45 : Nat)]?.getD undef = sl 1 q ∧ wr.heap[q]? = some (.cells (modC B 0 0).toArray 127 (0, 0)) := hd 12
       refine ca_ 37 45 128 127 (.agg ji_) 32 568 rfl Tryz.underlying128 info_mod rfl (by omega) q 1 (modC B 0 0) h37 h45 hq (ix_ B 0 0) (iy_ B 0 0) (by omega) ?_
       intro cap w' ho hb'
       exact ⟨⟨_, cap, rfl, ap_ ho hb.size⟩, fun h => by cases h⟩
   · intro fw w3 hb3 hs hn hne
     obtain ⟨g, cap, g46, hown⟩ : ∃ g cap, fw 46 = .slice (some ⟨g, 0, none⟩) 1 cap ∧ w3.ownsRow X.heap.size 127 32 (.slice (some ⟨g, 0, none⟩) 1 cap) 1 (modC B 0 0) := hs 13 (by simp)
     rw [facv hs [33, 34, 35, 36, 37, 38, 39, 40, 41, 42, 43, 44, 45, 46] (by kernel_rfl)]
     simp only [actG, Act.put, List.drop, List.length, g46, List.setIfInBounds_toArray, List.set_cons_zero, List.set_cons_succ]
     clear hs hn hne g46
     have zt := at_b hb3 yt
     have c1 := ab_ zt 1 rfl; have f1 := ag_ zt 1
     have HZ := h4_ zt (yo.call hb3) hown yo.size
     clear zt hb3 hown yt yg yo
     go_wp2
     go_ret
     obtain ⟨zt, zo, zown, hsz⟩ := HZ.out
     refine ⟨rfl, zo.setCell _ _ (.inl (.inl rfl)), g, cap, aj_ zt 1 _, ?_⟩
     exact ap_ (b6_ zown _ _ (by obtain ⟨_, _, cur, hcur⟩ := ah_ zown; simpa [Value.ownBlock] using am_ hcur zt (by decide))) hsz
end Two
namespace Two
open Go.RowKit Go.ChangeMaps
attribute [local go_sem] ak_ af_ aq_ be_ bf_ bg_ a6_ a7_ a8_ cb_ run_makeMap
theorem ro_ (B : IB) (x y : Int) : (modC B x y)[(17 : Nat)]? = some (.slice none 0 0) := by unfold modC aa_; rfl
theorem rp_ (B : IB) (x y : Int) : (modC B x y)[(28 : Nat)]? = some (.int .i64 y) := by unfold modC aa_; rfl
theorem rq_ (B : IB) (x y z : Int) : (modC B x y).set 28 (.int .i64 z) = modC B x z := by unfold modC aa_; rfl
attribute [local irreducible] aa_ modC
theorem row_cell {w : World} {base : Nat} {e : TypeId} {size g cap : Nat} {n : Nat} {xs : List Value} (h : w.ownsRow base e size (.slice (some ⟨g, 0, none⟩) n cap) n xs) (j : Nat) {u : Value} (hj : xs[j]? = some u) : w.cell? ⟨g, j, none⟩ = some u ∧ w.frozen? ⟨g, j, none⟩ = false := by
 have h1 := h.cells (g := g) rfl j u hj
 rw [hx_] at h1
 obtain ⟨_, _, cur, hcur⟩ := ah_ h
 exact ⟨h1, ag_ hcur j⟩
theorem wv_ (l s b st : Nat) (B : IB) (hsz : B.bytes.size = 256) (w : World) (hl : w.heap[l]? = some (.cells (bj_ s b st (.slice none 0 0) (.slice none 0 0)).toArray 167 (0, 0))) (hs : w.heap[st]? = some (.map #[⟨.string labS, .agg (aa_ B), 0⟩] 1)) (hD : a5_ w B.gd) :
 Calls Tryz.prog 149 #[.pointer (some ⟨l, 0, none⟩), .string labS, .int .i64 0, .bool true] w fun e w' => ∃ t nm g cap, e = .returned (.tuple #[.pointer (some ⟨t, 0, none⟩), .int .i64 0]) ∧ Below w.heap.size w w' ∧
  w'.heap[t]? = some (.cells [.int .i64 0, .slice (some ⟨g, 0, none⟩) 1 cap, .map (some nm), .slice none 0 0].toArray 293 (0, 0)) ∧ w.heap.size ≤ t ∧ w'.ownsRow w.heap.size 127 32 (.slice (some ⟨g, 0, none⟩) 1 cap) 1 (modC B 0 1) := by
 have ll := lt_of_block hl
 have HH := h2_ hl hs
 have HS := h1_ hsz
 have HD := h1_ hD
 clear hD
 unfold bj_ at hl
 have c4 := ab_ hl 4 rfl
 clear hl hs hsz
 go_enter Tryz.func149, Tryz.ntmps149
 go_wp2_with fail
 refine (ladd l s b st (w.heap.size + 1) w.heap.size (.slice none 0 0) (.slice none 0 0) B HS.out _ (ae_ (ae_ HH.out.1)) (ae_ (ae_ HH.out.2)) (heap_alloc2_new _ _ _) (ae_ (heap_alloc_new _ _)) (HD.out.below (((Below.refl _ _).alloc (Nat.le_refl _) _).alloc (by simp) _))).mono ?_
 rintro e w1 ⟨rfl, ho1, g, cap, ht1, hown1⟩
 have kB : Below w.heap.size w w1 := ((((Only.refl (fun b => w.heap.size ≤ b) w).alloc _).alloc _).then ho1 (fun b _ hb => by omega)).below (Nat.le_refl _) (fun k h => h)
 have kl := (kB.block _ ll).trans HH.out.1
 have lg := (ah_ hown1).1
 have lg2 := (ah_ hown1).2.1
 have ntg : ¬ w.heap.size + 1 = g := by obtain ⟨_, _, cur, hcur⟩ := ah_ hown1; exact am_ ht1 hcur (by decide)
 obtain ⟨c28, f28⟩ := row_cell hown1 28 (rp_ B 0 0)
 have d1 := ab_ ht1 1 rfl
 have HK := h4_ kB kl ht1 (ap_ hown1 (base' := w.heap.size) (by simp; omega))
 clear kB kl ht1 hown1 ho1 c4
 simp at lg
 go_upto_region 6 with fail
 refine ac_ fun X hX => ?_
 obtain ⟨kB, kl, ht1, hown1⟩ := HK.out
 have nlg : l ≠ g := by omega
 have xo := b7_ hown1 28 (.int .i64 1)
 rw [rq_] at xo
 have xB : Below w.heap.size w X := by rw [← hX]; exact ((Only.of_below_le kB (fun k _ h => h) : Only (fun b => w.heap.size ≤ b) w w1).setCell _ _ (.inl (by show w.heap.size ≤ g; omega))).below (Nat.le_refl _) (fun k h => h)
 have xt : X.heap[w.heap.size + 1]? = some (.cells [.int .i64 0, .slice (some ⟨g, 0, none⟩) 1 cap, .map (some w.heap.size), .slice none 0 0].toArray 293 (0, 0)) := by rw [← hX]; exact ay_ ht1 _ _ ntg
 have xown : X.ownsRow w.heap.size 127 32 (.slice (some ⟨g, 0, none⟩) 1 cap) 1 (modC B 0 1) := by rw [← hX]; exact xo
 have xl := (xB.block _ ll).trans HH.out.1
 unfold bj_ at xl
 have e4 := ab_ xl 4 rfl
 have e1 := ab_ xt 1 rfl
 have e17 := (row_cell xown 17 (ro_ B 0 1)).1
 have HX := h3_ xB xt xown
 clear kB kl ht1 hown1 xo xB xt xown xl hX HK c28 f28 d1 HH HS
 go_wp2
 refine wp_loop_rounds 2 ?_
 rw [rounds_succ]
 go_wp2
 refine wp_loop_rounds 1 ?_
 rw [rounds_succ]
 go_wp2
 rw [rounds_succ]
 go_wp2
 refine wp_loop_rounds 1 ?_
 rw [rounds_succ]
 go_wp2
 go_ret2
 obtain ⟨xB, xt, xown⟩ := HX.out
 exact ⟨w.heap.size + 1, w.heap.size, g, cap, rfl, xB, xt, by omega, xown⟩
end Two
namespace Two
open Go.RowKit Go.ChangeMaps
attribute [local go_sem] ak_ af_ aq_ be_ bf_ bg_ a6_ a7_ a8_ cb_ run_makeMap
attribute [local irreducible] aa_ modC
attribute [local go_sem] dy_ d4_ ds_ eb_ d5_ d6_ ec_ ed_ ee_ ef_ db_ dc_ dd_ de_ df_ dg_ c1_ c2_ c3_ dh_ di_ c4_ dj_ dk_ dl_ dm_
def oy_ (a s k : Int) : List Value := [.int .i64 a, .int .i64 s, .int .i64 k, .int .i64 0, .int .i64 0]
theorem lareas (B : IB) (w : World) : Calls Tryz.prog 223 #[.int .i64 0, .int .i64 512, .agg (aa_ B)] w fun e w' => ∃ g cap, e = .returned (.slice (some ⟨g, 0, none⟩) 1 cap) ∧ Below w.heap.size w w' ∧
 w'.ownsRow w.heap.size 173 5 (.slice (some ⟨g, 0, none⟩) 1 cap) 1 (oy_ 512 256 0) := by
 obtain ⟨i0, hi, hz0, hz1, hz2⟩ := info_parts jc_
 have HI := h4_ hi hz0 hz1 hz2
 clear hi hz0 hz1 hz2
 go_enter Tryz.func223, Tryz.ntmps223
 go_upto_region 4 with (at_builtin; refine d1_ rfl _ _ 184 173 (.agg #[.int .i64 0, .int .i64 0, .int .i64 0, .int .i64 0, .int .i64 0]) 5 40 rfl Tryz.underlying184 jc_ rfl (by omega) (w.heap.size + 1) 1 (oy_ 512 256 0) rfl rfl (heap_alloc2_new _ _ _) rfl (by simp [oy_, Value.oneCell']) (by omega) (w.heap.size + 2) (by simp) ?_; intro cap w1 hown1 hb1; have H1 := h2_ hown1 hb1; clear hown1 hb1)
 obtain ⟨hown1, hb1⟩ := H1.out
 have kl := (hb1.block w.heap.size (by omega)).trans (ae_ (o' := .cells (oy_ 512 256 0).toArray 173) (heap_alloc_new w (.cells (aa_ B) 52)))
 have hsz := hb1.size
 simp at hsz
 have c2 := al_ (v := .int .i64 256) kl 2 (ds_ B)
 have c4 := al_ (v := .int .i64 256) kl 4 (d5_ B)
 have kB : Below w.heap.size w w1 := (((Below.refl w.heap.size w).alloc (Nat.le_refl _) (.cells (aa_ B) 52)).alloc (by simp) (.cells (oy_ 512 256 0).toArray 173)).trans (hb1.mono (by omega))
 have HK := h2_ kB hown1
 clear hb1 hown1 kl H1 kB
 go_wp2
 go_ret
 exact ⟨_, _, rfl, HK.out.1, ap_ HK.out.2 (by simp)⟩
end Two
namespace Two
open Go.RowKit Go.ChangeMaps
attribute [local go_sem] ak_ af_ aq_ be_ bf_ bg_ a6_ a7_ a8_ cb_ run_makeMap
theorem mk_ (B : IB) (x y : Int) : (modC B x y)[(2 : Nat)]? = some (.int .i64 256) := by unfold modC aa_; rfl
theorem tu_ (B : IB) (x y : Int) : (modC B x y)[(4 : Nat)]? = some (.int .i64 256) := by unfold modC aa_; rfl
theorem ml_ (B : IB) (x y : Int) : (modC B x y)[(5 : Nat)]? = some (.string B.bytes) := by unfold modC aa_; rfl
theorem f3_ (B : IB) (x y : Int) : (modC B x y)[(26 : Nat)]? = some (.int .i64 x) := by unfold modC aa_; rfl
theorem rr_ (B : IB) (x y z : Int) : (modC B x y).set 26 (.int .i64 z) = modC B z y := by unfold modC aa_; rfl
theorem lm_ (B : IB) (x y : Int) (j : Nat) (u : Value) (h : (aa_ B).toList[j]? = some u) : (modC B x y)[j]? = some u := by
 unfold modC
 rw [List.getElem?_append_left (List.getElem?_eq_some_iff.1 h).1]; exact h
theorem qa_ (B : IB) : (Tryz.prog.info? 52).map (·.size) = some (aa_ B).toList.length := by unfold aa_; kernel_rfl
theorem qb_ (B : IB) (x y : Int) {w : World} {g : Nat} {f : Nat × Nat} (hg : w.heap[g]? = some (.cells (modC B x y).toArray 127 f)) :
 (loadVar 52 ⟨g, 0, none⟩).run Tryz.prog w = .ok (.agg (aa_ B)) w := by
 have h := run_loadVar_mid (P := Tryz.prog) w g 0 52 (aa_ B).toList _ (fun j v hv => by rw [Nat.zero_add]; exact ab_ hg j (lm_ B x y j v hv)) Tryz.underlying52 rfl (qa_ B)
 simpa using h
attribute [local irreducible] aa_ modC
theorem mm_ : AreasOk [] := ⟨by simp, by simp, by simp⟩
theorem jj_ (b : Nat) : AreasOk [bt_ 512 256 0 0 0 b] := mm_.snoc (q := bt_ 512 256 0 0 0 b) (by simp only [bt_]; decide) (by simp) (by simp)
theorem ww_ (L : List UInt8) (h : L.length = 256) : (ByteArray.mk L.toArray).extract 0 256 = ⟨(L.take 256).toArray⟩ := by
 apply ByteArray.ext; simp [ByteArray.data_extract]
theorem qc_ (L : List UInt8) (h : L.length = 256) : ByteArray.empty = ⟨(L.drop 256).toArray⟩ := by rw [List.drop_eq_nil_of_le (by omega)]; rfl
theorem gm_ {L : List UInt8} {B : IB} (h : B.bytes = ⟨L.toArray⟩) (hl : L.length = 256) : B.bytes.size = 256 := by rw [h]; simp [ByteArray.size, hl]
theorem last0 {p : Part} {a : Int} (h : p.at_ ≤ a) : LastAt [p] a 0 where
 lt := by simp
 le := h
 next j hj hij := by
  simp at hj
  omega
def fm_ (L : List UInt8) (b : Nat) : Part := (bt_ 512 256 0 0 0 b).put 512 (L.take 256)
theorem lplace (l s b st x mo th at_ : Nat) (L : List UInt8) (B : IB) (hB : B.bytes = ⟨L.toArray⟩) (hL : L.length = 256) (w : World) (hl : w.heap[l]? = some (.cells (bj_ s b st (.slice none 0 0) (.slice none 0 0)).toArray 167 (0, 0)))
 (hx : w.heap[x]? = some (.cells (modC B 0 1).toArray 127 (0, 0))) (hsp : SpaceAt w s (.slice none 0 0) [])
 (hbb : w.heap[b]? = some (.cells (cv_ s mo th at_).toArray 164 (0, 0))) (hmo : w.heap[mo]? = some (.map #[] 0)) (hth : w.heap[th]? = some (.map #[] 0)) (nmt : mo ≠ th) (hD : a5_ w B.gd) :
 Calls Tryz.prog 150 #[.pointer (some ⟨l, 0, none⟩), .int .i64 0, .pointer (some ⟨x, 0, none⟩)] w fun e w' => e = .returned (.bool true) ∧ Only (fun k => k = s ∨ k = x ∨ k = mo) w w' ∧
  w'.heap[x]? = some (.cells (modC B 512 1).toArray 127 (0, 0)) ∧ w'.heap[mo]? = some (.map #[⟨.int .i64 0, .agg (aa_ B), 0⟩] 1) ∧
  ∃ g cap b1, SpaceAt w' s (.slice (some ⟨g, 0, none⟩) 1 cap) [fm_ L b1] ∧ w.heap.size ≤ g ∧ w.heap.size ≤ b1 := by
 have nxs : x ≠ s := am_ hx hsp.head (by decide)
 have nls : l ≠ s := am_ hl hsp.head (by decide)
 have nlx : l ≠ x := am_ hl hx (by decide)
 have nbs : b ≠ s := am_ hbb hsp.head (by decide)
 have nbx : b ≠ x := am_ hbb hx (by decide)
 have HN := h5_ nxs nls nlx nbs nbx
 have HM := h4_ hbb hmo hth nmt
 have HD := h1_ hD
 clear hD
 clear nxs nls nlx nbs nbx hbb hmo hth nmt
 have HL := h1_ hl
 have HX := h1_ hx
 have HSP := h1_ hsp
 have HBL := h2_ hB hL
 clear hsp hB hL
 unfold bj_ at hl
 go_enter Tryz.func150, Tryz.ntmps150
 go_upto_region 1 with fail
 refine wr_ [.pt x 0, .pt l 0, .pt l 0, .pt l 0, .pt s 0, .pt x 0, .pt x 0, .pt x 0, .pt x 4, .val (.int .i64 256), .val (.int .i64 512)] (by kernel_rfl) (by kernel_rfl) ?_ ?_
 · simp only [ck_, List.take, List.length]
   refine ⟨?_, ?_, ?_, ?_, ?_, ?_, ?_, ?_, ?_, ?_, ?_, ?_⟩
   all_goals first | trivial | (intro a wr hb hf hd)
   all_goals have hf0 : zp_ a 0 l 0 := (hf 0).trans rfl
   all_goals have hf2 : zp_ a 2 x 0 := (hf 2).trans rfl
   · exact as_ _ rfl ⟨hf2, fun h => by cases h⟩
   · exact as_ _ rfl ⟨hf0, fun h => by cases h⟩
   · have h17 : z_ a 17 _ := hd 1
     exact gp_ (by simp [execOp, h17, go_sem])
   · have h18 : z_ a 18 _ := hd 2
     exact gp_ (by simp [execOp, h18, go_sem])
   · have h19 : z_ a 19 _ := hd 3
     have hc := ab_ (at_b hb hl) 0 (rfl)
     exact gp_ (by simp [execOp, h19, hc, go_sem])
   · exact as_ _ rfl ⟨hf2, fun h => by cases h⟩
   · have h21 : z_ a 21 _ := hd 5
     exact gp_ (by simp [execOp, h21, go_sem])
   · have h22 : z_ a 22 _ := hd 6
     exact gp_ (by simp [execOp, h22, go_sem])
   · have h23 : z_ a 23 _ := hd 7
     exact gp_ (by simp [execOp, h23, go_sem])
   · have h24 : z_ a 24 _ := hd 8
     have hc := ab_ (at_b hb hx) 4 (tu_ B 0 1)
     exact gp_ (by simp [execOp, h24, hc, go_sem])
   · have h20 : z_ a 20 _ := hd 4
     have h25 : z_ a 25 _ := hd 9
     refine cu_ (f := 68) (args := #[.pointer (some ⟨s, 0, none⟩), .int .i64 256]) (by simp [execOp, h20, h25, go_sem]) ?_
     refine (sz_ s 256 _ (HSP.out.below hb) (by omega) (by omega)).mono ?_
     rintro e w3 ⟨rfl, hb3⟩
     exact ⟨_, rfl, hb3, by rfl, fun h => by cases h⟩
 · intro fv w2 hb2 hs hn hne
   rw [facv hs [16, 17, 18, 19, 20, 21, 22, 23, 24, 25, 26] (by kernel_rfl)]
   simp only [actG, Act.put, List.drop, List.length, List.setIfInBounds_toArray, List.set_cons_zero, List.set_cons_succ]
   clear hs hn hne
   have xx := at_b hb2 hx
   have c26 := ab_ xx 26 (f3_ B 0 1)
   have f26 := ag_ xx 26
   have HB := h2_ hb2 xx
   have sz := hb2.size
   have lx := lt_of_block hx
   clear hb2 xx hl hx
   go_upto_region 4 with fail
   refine ac_ fun V hV => ?_
   have vo : Only (fun k => k = s ∨ k = x) w V := by rw [← hV]; exact (Only.of_below HB.out.1).setCell _ _ (.inl (.inr rfl))
   have vx : V.heap[x]? = some (.cells (modC B 512 1).toArray 127 (0, 0)) := by rw [← hV, ← rr_ B 0 1 512]; exact aj_ HB.out.2 26 _
   have vsp : SpaceAt V s (.slice none 0 0) [] := by rw [← hV]; exact (HSP.out.below HB.out.1).kept ((Only.refl (· = x) _).setCell _ _ (.inl rfl)) (by rintro k (rfl | hk | ⟨p, hp, _⟩) hk'; exact HN.out.1 hk'.symm; simp [Value.ownBlock] at hk; simp at hp)
   have ls := lt_of_block vsp.head
   have HV := h2_ vo vsp
   clear vo vsp hV HB sz c26 f26
   refine wr_ [.val (.int .i64 0), .pt x 0, .pt x 0, .pt x 26, .val (.int .i64 512), .pt x 0, .pt x 0, .pt x 0, .val (.agg (aa_ B)), .more (fun v w' => ∃ g cap, v = .slice (some ⟨g, 0, none⟩) 1 cap ∧ w'.ownsRow V.heap.size 173 5 (.slice (some ⟨g, 0, none⟩) 1 cap) 1 (oy_ 512 256 0)) (fun v w' w'' hb h => by obtain ⟨g, cap, h1, h3⟩ := h; exact ⟨g, cap, h1, ai_ h3 hb⟩)] (by kernel_rfl) (by kernel_rfl) ?_ ?_
   · simp only [ck_, List.take, List.length]
     refine ⟨?_, ?_, ?_, ?_, ?_, ?_, ?_, ?_, ?_, ?_, ?_⟩
     all_goals first | trivial | (intro a wr hb hf hd)
     all_goals have hf1 : z_ a 1 (.int .i64 0) := (hf 1).trans rfl
     all_goals have hf2 : zp_ a 2 x 0 := (hf 2).trans rfl
     · exact as_ _ rfl ⟨hf1, fun h => by cases h⟩
     · exact as_ _ rfl ⟨hf2, fun h => by cases h⟩
     · have h35 : z_ a 35 _ := hd 1
       exact gp_ (by simp [execOp, h35, go_sem])
     · have h36 : z_ a 36 _ := hd 2
       exact gp_ (by simp [execOp, h36, go_sem])
     · have h37 : z_ a 37 _ := hd 3
       have hc := ab_ (at_b hb vx) 26 (f3_ B 512 1)
       exact gp_ (by simp [execOp, h37, hc, go_sem])
     · exact as_ _ rfl ⟨hf2, fun h => by cases h⟩
     · have h39 : z_ a 39 _ := hd 5
       exact gp_ (by simp [execOp, h39, go_sem])
     · have h40 : z_ a 40 _ := hd 6
       exact gp_ (by simp [execOp, h40, go_sem])
     · have h41 : z_ a 41 _ := hd 7
       exact gp_ (by simp [execOp, h41, Act.eval, Instr.loadAt, Instr.sureAddr, qb_ B 512 1 (at_b hb vx)])
     · have h34 : z_ a 34 _ := hd 0
       have h38 : z_ a 38 _ := hd 4
       have h42 : z_ a 42 _ := hd 8
       refine cu_ (f := 223) (args := #[.int .i64 0, .int .i64 512, .agg (aa_ B)]) (by simp [execOp, h34, h38, h42, go_sem]) ?_
       refine (lareas B _).mono ?_
       rintro e w3 ⟨g, cap, rfl, hb3, hown⟩
       exact ⟨_, rfl, hb3, ⟨g, cap, rfl, ap_ hown hb.size⟩, fun h => by cases h⟩
   · intro fw w3 hb3 hs hn hne
     obtain ⟨g, cap, g43, hown⟩ : ∃ g cap, fw 43 = .slice (some ⟨g, 0, none⟩) 1 cap ∧ w3.ownsRow V.heap.size 173 5 (.slice (some ⟨g, 0, none⟩) 1 cap) 1 (oy_ 512 256 0) := hs 9 (by simp)
     rw [facv hs [34, 35, 36, 37, 38, 39, 40, 41, 42, 43] (by kernel_rfl)]
     simp only [actG, Act.put, List.drop, List.length, g43, List.setIfInBounds_toArray, List.set_cons_zero, List.set_cons_succ]
     clear hs hn hne g43
     have lg := (ah_ hown).2.1
     have lgV := (ah_ hown).1
     have wo := HV.out.1.call hb3
     have wx := at_b hb3 vx
     have wsp := HV.out.2.below hb3
     have d0 := (row_cell hown 0 rfl).1; have d1 := (row_cell hown 1 rfl).1; have d2 := (row_cell hown 2 rfl).1; have d3 := (row_cell hown 3 rfl).1; have d4 := (row_cell hown 4 rfl).1
     have H3 := h4_ wo wx wsp hown
     clear wo wx wsp hown hb3 vx HV
     go_wp2
     refine wp_loop_rounds 2 ?_
     rw [rounds_succ]
     go_upto_region 8 with (((with_reducible refine ad_ ?_); refine sr_ rfl rfl (h := ?_); (try simp only [World.setRow_alloc_new])))
     refine ac_ fun U0 hU => ?_
     have uB : Below w3.heap.size w3 U0 := by rw [← hU]; go_grown
     have ua : U0.heap[w3.heap.size]? = some (.cells #[.int .i64 512, .int .i64 256, .int .i64 0, .int .i64 0, .int .i64 0] 173 (0, 0)) := by rw [← hU]; exact heap_alloc_new _ _
     obtain ⟨po, px, psp, pown⟩ := H3.out
     have uo := po.call uB
     have ul := uo.kept HL.out (by rintro (h | h); exact HN.out.2.1 h; exact HN.out.2.2.1 h)
     unfold bj_ at ul
     have ux := at_b uB px
     have usp := psp.below uB
     have uown := ai_ pown uB
     have HU := h4_ uo ux usp uown
     clear hU uB po px psp pown uo ux usp uown H3 d0 d1 d2 d3 d4 lg
     refine wr_ [.pt l 0, .pt l 0, .pt l 0, .pt s 0, .val (.agg (#[.int .i64 512, .int .i64 256, .int .i64 0, .int .i64 0, .int .i64 0]))] (by kernel_rfl) (by kernel_rfl) ?_ ?_
     · simp only [ck_, List.take, List.length]
       refine ⟨?_, ?_, ?_, ?_, ?_, ?_⟩
       all_goals first | trivial | (intro a wr hb hf hd)
       all_goals have hf0 : zp_ a 0 l 0 := (hf 0).trans rfl
       all_goals have hf9 : zp_ a 9 w3.heap.size 0 := (hf 9).trans rfl
       · exact as_ _ rfl ⟨hf0, fun h => by cases h⟩
       · have h51 : z_ a 51 _ := hd 0
         exact gp_ (by simp [execOp, h51, go_sem])
       · have h52 : z_ a 52 _ := hd 1
         exact gp_ (by simp [execOp, h52, go_sem])
       · have h53 : z_ a 53 _ := hd 2
         have hc := ab_ (at_b hb ul) 0 (rfl)
         exact gp_ (by simp [execOp, h53, hc, go_sem])
       · exact c9_ 9 173 rfl w3.heap.size hf9 _ _ _ _ (at_b hb ua) Tryz.underlying173 rfl (by kernel_rfl) ⟨rfl, fun h => by cases h⟩
     · intro f80 w80 hb80 hs hn hne
       rw [facv hs [51, 52, 53, 54, 55] (by kernel_rfl)]
       simp only [actG, Act.put, List.drop, List.length, List.setIfInBounds_toArray, List.set_cons_zero, List.set_cons_succ]
       clear hs hn hne
       go_wp2_with (go_at_call 69; refine (map_nil s 512 256 0 0 0 _ mm_ (HU.out.2.2.1.below hb80) (by omega) (by omega) (by decide) (by omega) (by omega) (by omega) (by omega) (by omega) (by simp) (by simp)).mono ?_; rintro e W0 ⟨rfl, hmo0, pv0, bc, hsp0, hbc, hpv0⟩; have HW := h4_ hmo0 hsp0 hbc hpv0; clear hmo0 hsp0 hbc hpv0)
       obtain ⟨uo, ux, usp, uown⟩ := HU.out
       obtain ⟨hmo0, hsp0, hbc, hpv0⟩ := HW.out
       obtain ⟨g0, cap0, rfl, _⟩ := hsp0.parts (by simp)
       have lg0 : w80.heap.size ≤ g0 := by
        rcases hpv0 with h | ⟨q, h, hq⟩
        · simp [Value.ownBlock] at h
        · simp [Value.ownBlock] at h; omega
       have po := (uo.call hb80).then hmo0 (T := fun b => b = s ∨ Value.ownBlock (.slice none 0 0) = some b) (by rintro b _ (rfl | h); exact .inl rfl; simp [Value.ownBlock] at h)
       have px := hmo0.kept (at_b hb80 ux) (by rintro (h | h); exact HN.out.1 h; simp [Value.ownBlock] at h)
       have lbc : w.heap.size ≤ bc := Nat.le_trans (uo.call hb80).size hbc
       have lg0w : w.heap.size ≤ g0 := Nat.le_trans (uo.call hb80).size lg0
       have H3 := h3_ po px hsp0
       clear po hsp0 hmo0 hpv0 uo ux usp uown HU HW hb80 ul ua hbc
       rw [rounds_succ]
       go_upto_region 16 with fail
       refine wr_ [.pt x 0, .pt x 0, .pt x 0, .pt x 5, .val (.string B.bytes), .pt x 0, .pt x 0, .pt x 0, .pt x 2, .val (.int .i64 256), .val (.string ⟨(L.take 256).toArray⟩), .pt x 0, .pt x 0, .pt x 0, .pt x 5, .val (.string B.bytes), .pt x 0, .pt x 0, .pt x 0, .pt x 2, .val (.int .i64 256), .val (.string ⟨(L.drop 256).toArray⟩), .val (.string ⟨(L.take 256).toArray⟩), .val (.string ⟨(L.drop 256).toArray⟩)] (by kernel_rfl) (by kernel_rfl) ?_ ?_
       · simp only [ck_, List.take, List.length]
         refine ⟨?_, ?_, ?_, ?_, ?_, ?_, ?_, ?_, ?_, ?_, ?_, ?_, ?_, ?_, ?_, ?_, ?_, ?_, ?_, ?_, ?_, ?_, ?_, ?_, ?_⟩
         all_goals first | trivial | (intro a wr hb hf hd)
         all_goals have hf2 : zp_ a 2 x 0 := (hf 2).trans rfl
         · exact as_ _ rfl ⟨hf2, fun h => by cases h⟩
         · have h75 : z_ a 75 _ := hd 0
           exact gp_ (by simp [execOp, h75, go_sem])
         · have h76 : z_ a 76 _ := hd 1
           exact gp_ (by simp [execOp, h76, go_sem])
         · have h77 : z_ a 77 _ := hd 2
           exact gp_ (by simp [execOp, h77, go_sem])
         · have h78 : z_ a 78 _ := hd 3
           have hc := ab_ (at_b hb px) 5 (ml_ B 512 1)
           exact gp_ (by simp [execOp, h78, hc, go_sem])
         · exact as_ _ rfl ⟨hf2, fun h => by cases h⟩
         · have h80 : z_ a 80 _ := hd 5
           exact gp_ (by simp [execOp, h80, go_sem])
         · have h81 : z_ a 81 _ := hd 6
           exact gp_ (by simp [execOp, h81, go_sem])
         · have h82 : z_ a 82 _ := hd 7
           exact gp_ (by simp [execOp, h82, go_sem])
         · have h83 : z_ a 83 _ := hd 8
           have hc := ab_ (at_b hb px) 2 (mk_ B 512 1)
           exact gp_ (by simp [execOp, h83, hc, go_sem])
         · have h79 : z_ a 79 _ := hd 4
           have h84 : z_ a 84 _ := hd 9
           have hs := gm_ HBL.out.1 HBL.out.2
           have ht := ww_ L HBL.out.2
           rw [← HBL.out.1] at ht
           exact gp_ (by simp [execOp, h79, h84, go_sem, hs, ht])
         · exact as_ _ rfl ⟨hf2, fun h => by cases h⟩
         · have h86 : z_ a 86 _ := hd 11
           exact gp_ (by simp [execOp, h86, go_sem])
         · have h87 : z_ a 87 _ := hd 12
           exact gp_ (by simp [execOp, h87, go_sem])
         · have h88 : z_ a 88 _ := hd 13
           exact gp_ (by simp [execOp, h88, go_sem])
         · have h89 : z_ a 89 _ := hd 14
           have hc := ab_ (at_b hb px) 5 (ml_ B 512 1)
           exact gp_ (by simp [execOp, h89, hc, go_sem])
         · exact as_ _ rfl ⟨hf2, fun h => by cases h⟩
         · have h91 : z_ a 91 _ := hd 16
           exact gp_ (by simp [execOp, h91, go_sem])
         · have h92 : z_ a 92 _ := hd 17
           exact gp_ (by simp [execOp, h92, go_sem])
         · have h93 : z_ a 93 _ := hd 18
           exact gp_ (by simp [execOp, h93, go_sem])
         · have h94 : z_ a 94 _ := hd 19
           have hc := ab_ (at_b hb px) 2 (mk_ B 512 1)
           exact gp_ (by simp [execOp, h94, hc, go_sem])
         · have h90 : z_ a 90 _ := hd 15
           have h95 : z_ a 95 _ := hd 20
           have hs := gm_ HBL.out.1 HBL.out.2
           have ht := qc_ L HBL.out.2
           exact gp_ (by simp [execOp, h90, h95, go_sem, hs, ht])
         · have h85 : z_ a 85 _ := hd 10
           exact gp_ (by simp [execOp, h85, go_sem])
         · have h96 : z_ a 96 _ := hd 21
           exact gp_ (by simp [execOp, h96, go_sem])
       · intro f16 w16 hb16 hs hn hne
         rw [facv hs [75, 76, 77, 78, 79, 80, 81, 82, 83, 84, 85, 86, 87, 88, 89, 90, 91, 92, 93, 94, 95, 96, 12, 13] (by kernel_rfl)]
         simp only [actG, Act.put, List.drop, List.length, List.setIfInBounds_toArray, List.set_cons_zero, List.set_cons_succ]
         clear hs hn hne
         have qo := H3.out.1.call hb16
         have qx := at_b hb16 H3.out.2.1
         have qsp := H3.out.2.2.below hb16
         have ql := qo.kept HL.out (by rintro (h | h); exact HN.out.2.1 h; exact HN.out.2.2.1 h)
         unfold bj_ at ql
         clear hb16 H3 px
         go_upto_region 17 with fail
         refine wr_ [.pt l 0, .pt l 0, .pt l 0, .pt s 0, .pt x 0, .pt x 0, .pt x 26, .val (.int .i64 512), .val (.string ⟨(L.take 256).toArray⟩)] (by kernel_rfl) (by kernel_rfl) ?_ ?_
         · simp only [ck_, List.take, List.length]
           refine ⟨?_, ?_, ?_, ?_, ?_, ?_, ?_, ?_, ?_, ?_⟩
           all_goals first | trivial | (intro a wr hb hf hd)
           all_goals have hf0 : zp_ a 0 l 0 := (hf 0).trans rfl
           all_goals have hf2 : zp_ a 2 x 0 := (hf 2).trans rfl
           all_goals have hf12 : z_ a 12 (.string ⟨(L.take 256).toArray⟩) := (hf 12).trans rfl
           · exact as_ _ rfl ⟨hf0, fun h => by cases h⟩
           · have h97 : z_ a 97 _ := hd 0
             exact gp_ (by simp [execOp, h97, go_sem])
           · have h98 : z_ a 98 _ := hd 1
             exact gp_ (by simp [execOp, h98, go_sem])
           · have h99 : z_ a 99 _ := hd 2
             have hc := ab_ (at_b hb ql) 0 (rfl)
             exact gp_ (by simp [execOp, h99, hc, go_sem])
           · exact as_ _ rfl ⟨hf2, fun h => by cases h⟩
           · have h101 : z_ a 101 _ := hd 4
             exact gp_ (by simp [execOp, h101, go_sem])
           · have h102 : z_ a 102 _ := hd 5
             exact gp_ (by simp [execOp, h102, go_sem])
           · have h103 : z_ a 103 _ := hd 6
             have hc := ab_ (at_b hb qx) 26 (f3_ B 512 1)
             exact gp_ (by simp [execOp, h103, hc, go_sem])
           · exact as_ _ rfl ⟨hf12, fun h => by cases h⟩
         · intro f17 w17 hb17 hs hn hne
           rw [facv hs [97, 98, 99, 100, 101, 102, 103, 104, 105] (by kernel_rfl)]
           simp only [actG, Act.put, List.drop, List.length, List.setIfInBounds_toArray, List.set_cons_zero, List.set_cons_succ]
           clear hs hn hne
           have HQ := h3_ (qo.call hb17) (at_b hb17 qx) (qsp.below hb17)
           have HLT := h1_ (show (512 : Int) - (bt_ 512 256 0 0 0 bc).at_ + (L.take 256).length ≤ (bt_ 512 256 0 0 0 bc).size by simp [bt_]; omega)
           clear qo qx qsp ql hb17
           go_upto_region 18 with (go_at_call 173; refine (wc_ s (.slice (some ⟨g0, 0, none⟩) 1 cap0) [bt_ 512 256 0 0 0 bc] 512 (L.take 256) _ (jj_ bc) HQ.out.2.2 0 (last0 (by simp [bt_])) HLT.out).mono ?_; rintro e W2 ⟨rfl, ho2, hsp2⟩; have H2 := h2_ ho2 hsp2; clear ho2 hsp2)
           obtain ⟨qo, qx, qsp⟩ := HQ.out
           obtain ⟨ho2, hsp2⟩ := H2.out
           have zo := qo.then ho2 (by rintro k hk (rfl : k = bc); omega)
           have nxc : ¬ x = bc := by have := lt_of_block HX.out; omega
           have zx := ho2.kept qx nxc
           have zl := zo.kept HL.out (by rintro (h | h); exact HN.out.2.1 h; exact HN.out.2.2.1 h)
           unfold bj_ at zl
           have HZ := h2_ zo hsp2
           have HLS := h2_ HBL.out.2 trivial
           clear qo qx qsp ho2 hsp2 HQ H2 zo HLT
           refine wr_ [.pt l 0, .pt l 0, .pt l 0, .pt s 0, .pt x 0, .pt x 0, .pt x 26, .val (.int .i64 512), .val (.string ⟨(L.take 256).toArray⟩), .val (.int .i64 256), .val (.int .i64 768), .val (.string ⟨(L.drop 256).toArray⟩)] (by kernel_rfl) (by kernel_rfl) ?_ ?_
           · simp only [ck_, List.take, List.length]
             refine ⟨?_, ?_, ?_, ?_, ?_, ?_, ?_, ?_, ?_, ?_, ?_, ?_, ?_⟩
             all_goals first | trivial | (intro a wr hb hf hd)
             all_goals have hf0 : zp_ a 0 l 0 := (hf 0).trans rfl
             all_goals have hf2 : zp_ a 2 x 0 := (hf 2).trans rfl
             all_goals have hf12 : z_ a 12 (.string ⟨(L.take 256).toArray⟩) := (hf 12).trans rfl
             all_goals have hf13 : z_ a 13 (.string ⟨(L.drop 256).toArray⟩) := (hf 13).trans rfl
             · exact as_ _ rfl ⟨hf0, fun h => by cases h⟩
             · have h107 : z_ a 107 _ := hd 0
               exact gp_ (by simp [execOp, h107, go_sem])
             · have h108 : z_ a 108 _ := hd 1
               exact gp_ (by simp [execOp, h108, go_sem])
             · have h109 : z_ a 109 _ := hd 2
               have hc := ab_ (at_b hb zl) 0 (rfl)
               exact gp_ (by simp [execOp, h109, hc, go_sem])
             · exact as_ _ rfl ⟨hf2, fun h => by cases h⟩
             · have h111 : z_ a 111 _ := hd 4
               exact gp_ (by simp [execOp, h111, go_sem])
             · have h112 : z_ a 112 _ := hd 5
               exact gp_ (by simp [execOp, h112, go_sem])
             · have h113 : z_ a 113 _ := hd 6
               have hc := ab_ (at_b hb zx) 26 (f3_ B 512 1)
               exact gp_ (by simp [execOp, h113, hc, go_sem])
             · exact as_ _ rfl ⟨hf12, fun h => by cases h⟩
             · have h115 : z_ a 115 _ := hd 8
               have hs := HBL.out.2
               exact gp_ (by simp [execOp, h115, go_sem, ByteArray.size, hs])
             · have h114 : z_ a 114 _ := hd 7
               have h116 : z_ a 116 _ := hd 9
               exact av_ (v := .int .i64 768) (by simp [execOp, h114, h116, go_sem]; try rfl) (Below.refl _ _) ⟨rfl, fun h => by cases h⟩
             · exact as_ _ rfl ⟨hf13, fun h => by cases h⟩
           · intro f18 w18 hb18 hs hn hne
             rw [facv hs [107, 108, 109, 110, 111, 112, 113, 114, 115, 116, 117, 118] (by kernel_rfl)]
             simp only [actG, Act.put, List.drop, List.length, List.setIfInBounds_toArray, List.set_cons_zero, List.set_cons_succ]
             clear hs hn hne
             have HQ := h3_ (HZ.out.1.call hb18) (at_b hb18 zx) (HZ.out.2.below hb18)
             clear zx zl hb18 HZ
             go_upto_region 19 with (go_at_call 173; rw [← qc_ L HBL.out.2]; refine (ks_ s 768 _).mono ?_; rintro e W3 ⟨rfl, rfl⟩)
             obtain ⟨qo, qx, qsp⟩ := HQ.out
             have zl := qo.kept HL.out (by rintro (h | h); exact HN.out.2.1 h; exact HN.out.2.2.1 h)
             unfold bj_ at zl
             have HZ := h2_ qo qsp
             have zx := qx
             clear qo qx qsp HQ
             refine wr_ [.pt l 0, .pt l 0, .pt l 1, .pt b 0, .val (.int .i64 0), .pt x 0, .pt x 0, .pt x 0, .val (.agg (aa_ B))] (by kernel_rfl) (by kernel_rfl) ?_ ?_
             · simp only [ck_, List.take, List.length]
               refine ⟨?_, ?_, ?_, ?_, ?_, ?_, ?_, ?_, ?_, ?_⟩
               all_goals first | trivial | (intro a wr hb hf hd)
               all_goals have hf0 : zp_ a 0 l 0 := (hf 0).trans rfl
               all_goals have hf1 : z_ a 1 (.int .i64 0) := (hf 1).trans rfl
               all_goals have hf2 : zp_ a 2 x 0 := (hf 2).trans rfl
               · exact as_ _ rfl ⟨hf0, fun h => by cases h⟩
               · have h120 : z_ a 120 _ := hd 0
                 exact gp_ (by simp [execOp, h120, go_sem])
               · have h121 : z_ a 121 _ := hd 1
                 exact gp_ (by simp [execOp, h121, go_sem])
               · have h122 : z_ a 122 _ := hd 2
                 have hc := ab_ (at_b hb zl) 1 (rfl)
                 exact gp_ (by simp [execOp, h122, hc, go_sem])
               · exact as_ _ rfl ⟨hf1, fun h => by cases h⟩
               · exact as_ _ rfl ⟨hf2, fun h => by cases h⟩
               · have h125 : z_ a 125 _ := hd 5
                 exact gp_ (by simp [execOp, h125, go_sem])
               · have h126 : z_ a 126 _ := hd 6
                 exact gp_ (by simp [execOp, h126, go_sem])
               · have h127 : z_ a 127 _ := hd 7
                 exact gp_ (by simp [execOp, h127, Act.eval, Instr.loadAt, Instr.sureAddr, qb_ B 512 1 (at_b hb zx)])
             · intro f19 w19 hb19 hs hn hne
               rw [facv hs [120, 121, 122, 123, 124, 125, 126, 127, 128] (by kernel_rfl)]
               simp only [actG, Act.put, List.drop, List.length, List.setIfInBounds_toArray, List.set_cons_zero, List.set_cons_succ]
               clear hs hn hne
               obtain ⟨hbb, hmo, hth, nmt⟩ := HM.out
               have qo := HZ.out.1.call hb19
               have nm1 : ¬ (mo = s ∨ mo = x) := by rintro (h | h); have := HSP.out.head; rw [← h, hmo] at this; simp at this; have := HX.out; rw [← h, hmo] at this; simp at this
               have nt1 : ¬ (th = s ∨ th = x) := by rintro (h | h); have := HSP.out.head; rw [← h, hth] at this; simp at this; have := HX.out; rw [← h, hth] at this; simp at this
               have qb := qo.kept hbb (by rintro (h | h); exact HN.out.2.2.2.1 h; exact HN.out.2.2.2.2 h)
               have qm := qo.kept hmo nm1
               have qt := qo.kept hth nt1
               have nd1 : ¬ (B.gd = s ∨ B.gd = x) := by rintro (h | h); exact am_ HD.out HSP.out.head (by decide) h; exact am_ HD.out HX.out (by decide) h
               have qd : a5_ _ B.gd := qo.kept HD.out nd1
               have HQD := h1_ qd
               have HQ := h6_ qo (at_b hb19 zx) (HZ.out.2.below hb19) qb qm qt
               clear zx zl hb19 HZ hbb hmo hth qo qb qm qt qd
               go_wp2_with (go_at_call 224; refine (tmodule b s mo th at_ B (gm_ HBL.out.1 HBL.out.2) _ HQ.out.2.2.2.1 HQ.out.2.2.2.2.1 HQ.out.2.2.2.2.2 nmt HQD.out).mono ?_; rintro e W4 ⟨rfl, ho4, hm4⟩; have H4 := h2_ ho4 hm4; clear ho4 hm4)
               go_ret
               obtain ⟨qo, qx, qsp, qb, qm, qt⟩ := HQ.out
               obtain ⟨ho4, hm4⟩ := H4.out
               refine ⟨rfl, (qo.mono (T := fun k => k = s ∨ k = x ∨ k = mo) (by rintro k _ (h | h); exact .inl h; exact .inr (.inl h))).then ho4 (by rintro k _ h; exact .inr (.inr h)), ho4.kept qx (fun h => nm1 (.inr h.symm)), hm4, g0, cap0, bc, ?_, lg0w, lbc⟩
               refine qsp.kept ho4 ?_
               rintro k hk (rfl : k = mo)
               rcases hk with h | h | ⟨p, hp, h⟩
               · exact nm1 (.inl h)
               · have := lt_of_block HM.out.2.1; simp [Value.ownBlock] at h; omega
               · have := lt_of_block HM.out.2.1
                 simp at hp
                 subst hp; simp [fm_, bt_, Part.put] at h; omega
end Two
namespace Two
open Go.RowKit
attribute [local go_sem] ak_ af_
theorem rs_ : (Tryz.prog.info? 127).map (fun i => (i.zero, i.size, i.bytes)) = some (some (.agg ji_), 32, 568) := by kernel_rfl
theorem rt_ (g n cap : Nat) (xs : List Value) (w : World) (hc : ∀ j u, xs[j]? = some u → w.cell? ⟨g, j, none⟩ = some u) (hl : xs.length = n * 32) (h1 : ∀ u ∈ xs, u.oneCell' = true) (hn : 0 < n) (hm : n ≤ 2000000) (hg : g < w.heap.size) :
 Calls Tryz.prog 73 #[.slice (some ⟨g, 0, none⟩) n cap] w fun e w' => Below w.heap.size w w' ∧ ∃ g' cap', e = .returned (.slice (some ⟨g', 0, none⟩) n cap') ∧ w'.ownsRow w.heap.size 127 32 (.slice (some ⟨g', 0, none⟩) n cap') n xs := by
 obtain ⟨i0, hi, hz0, hz1, hz2⟩ := info_parts rs_
 have HC := h2_ hc h1
 clear hc h1
 have hen := fun (w : World) (a : Option Addr) (l c : Nat) => _root_.Go.run_eql_slice_nil (P := Tryz.prog) w 128 127 a l c Tryz.underlying128
 go_enter Tryz.func73, Tryz.ntmps73
 go_wp2_with (at_builtin; refine wpList_append_lies _ rfl _ _ _ rfl w.heap.size 127 i0 (.agg ji_) 32 568 Tryz.underlying128 hi hz0 hz1 hz2 rfl (by omega) _ 0 [] rfl ?c0 ⟨g, 0, none⟩ n cap xs rfl (by omega) ?c1 HC.out.2 (by omega) ?c3 ?c4 ?c5 (w.heap.size + 1) (by simp) ?_)
 case c0 => exact ⟨rfl, .inr ⟨w.heap.size, 0, #[], rfl, Nat.le_refl _, heap_alloc_new w _, by decide, by decide, rfl, rfl⟩⟩
 case c1 =>
  intro j u hj
  rw [hx_]
  exact (((Below.refl w.heap.size w).alloc (Nat.le_refl _) _).cell (p := ⟨g, j, none⟩) hg).trans (HC.out.1 j u hj)
 case c3 => unfold maxLen; omega
 case c4 => omega
 case c5 => simp
 intro g1 cap1 w1 hown1 hgrow hat hlt1
 have HG := h4_ hown1 hgrow hat hlt1
 clear hown1 hgrow hat hlt1
 go_wp2
 go_ret
 obtain ⟨hown1, hgrow, hat, hlt1⟩ := HG.out
 refine ⟨((Below.refl _ _).alloc (Nat.le_refl _) _).grown hgrow (by simp) (fun k hk => by simp [Value.ownBlock] at hk; omega), g1, cap1, by simp, by simpa using hown1⟩
theorem hh_ : (Tryz.prog.info? 133).map (fun i => (i.zero, i.size, i.bytes)) = some (some (.agg #[.int .i64 0, .int .i64 0, .int .i64 0, .int .i64 0, .int .i64 0, .int .i64 0, .int .i64 0, .int .i64 0, .int .i64 0, .int .i64 0, .int .i64 0, .int .i64 0, .int .i64 0, .int .i64 0, .int .i64 0, .int .i64 0, .int .i64 0, .int .i64 0, .int .i64 0, .int .i64 0, .int .i64 0, .slice none 0 0, .slice none 0 0]), 23, 216) := by kernel_rfl
theorem ln_ (g n cap : Nat) (xs : List Value) (w : World) (hc : ∀ j u, xs[j]? = some u → w.cell? ⟨g, j, none⟩ = some u) (hl : xs.length = n * 23) (h1 : ∀ u ∈ xs, u.oneCell' = true) (hn : 0 < n) (hm : n ≤ 2000000) (hg : g < w.heap.size) :
 Calls Tryz.prog 84 #[.slice (some ⟨g, 0, none⟩) n cap] w fun e w' => Below w.heap.size w w' ∧ ∃ g' cap', e = .returned (.slice (some ⟨g', 0, none⟩) n cap') ∧ w'.ownsRow w.heap.size 133 23 (.slice (some ⟨g', 0, none⟩) n cap') n xs := by
 obtain ⟨i0, hi, hz0, hz1, hz2⟩ := info_parts hh_
 have HC := h2_ hc h1
 clear hc h1
 have hen := fun (w : World) (a : Option Addr) (l c : Nat) => _root_.Go.run_eql_slice_nil (P := Tryz.prog) w 115 133 a l c Tryz.underlying115
 go_enter Tryz.func84, Tryz.ntmps84
 go_wp2_with (at_builtin; refine wpList_append_lies _ rfl _ _ _ rfl w.heap.size 133 i0 (.agg #[.int .i64 0, .int .i64 0, .int .i64 0, .int .i64 0, .int .i64 0, .int .i64 0, .int .i64 0, .int .i64 0, .int .i64 0, .int .i64 0, .int .i64 0, .int .i64 0, .int .i64 0, .int .i64 0, .int .i64 0, .int .i64 0, .int .i64 0, .int .i64 0, .int .i64 0, .int .i64 0, .int .i64 0, .slice none 0 0, .slice none 0 0]) 23 216 Tryz.underlying115 hi hz0 hz1 hz2 rfl (by omega) _ 0 [] rfl ?c0 ⟨g, 0, none⟩ n cap xs rfl (by omega) ?c1 HC.out.2 (by omega) ?c3 ?c4 ?c5 (w.heap.size + 1) (by simp) ?_)
 case c0 => exact ⟨rfl, .inr ⟨w.heap.size, 0, #[], rfl, Nat.le_refl _, heap_alloc_new w _, by decide, by decide, rfl, rfl⟩⟩
 case c1 =>
  intro j u hj
  rw [hx_]
  exact (((Below.refl w.heap.size w).alloc (Nat.le_refl _) _).cell (p := ⟨g, j, none⟩) hg).trans (HC.out.1 j u hj)
 case c3 => unfold maxLen; omega
 case c4 => omega
 case c5 => simp
 intro g1 cap1 w1 hown1 hgrow hat hlt1
 have HG := h4_ hown1 hgrow hat hlt1
 clear hown1 hgrow hat hlt1
 go_wp2
 go_ret
 obtain ⟨hown1, hgrow, hat, hlt1⟩ := HG.out
 refine ⟨((Below.refl _ _).alloc (Nat.le_refl _) _).grown hgrow (by simp) (fun k hk => by simp [Value.ownBlock] at hk; omega), g1, cap1, by simp, by simpa using hown1⟩
theorem ip_ (w : World) : Calls Tryz.prog 177 #[.slice none 0 0] w fun e w' => e = .returned (.slice none 0 0) ∧ w' = w := by
 have hen := fun (w : World) (a : Option Addr) (l c : Nat) => _root_.Go.run_eql_slice_nil (P := Tryz.prog) w 23 88 a l c Tryz.underlying23
 go_enter Tryz.func177, Tryz.ntmps177
 go_wp2
 go_ret
 exact ⟨rfl, rfl⟩
theorem jk_ (w : World) : Calls Tryz.prog 180 #[.slice none 0 0] w fun e w' => e = .returned (.slice none 0 0) ∧ w' = w := by
 have hen := fun (w : World) (a : Option Addr) (l c : Nat) => _root_.Go.run_eql_slice_nil (P := Tryz.prog) w 131 143 a l c Tryz.underlying131
 go_enter Tryz.func180, Tryz.ntmps180
 go_wp2
 go_ret
 exact ⟨rfl, rfl⟩
theorem lo_ (w : World) : Calls Tryz.prog 152 #[.slice none 0 0] w fun e w' => e = .returned (.slice none 0 0) ∧ w' = w := by
 go_enter Tryz.func152, Tryz.ntmps152
 go_wp2
 go_ret
 exact ⟨rfl, rfl⟩
theorem hi_ (w : World) : Calls Tryz.prog 38 #[.slice none 0 0] w fun e w' => e = .returned (.slice none 0 0) ∧ w' = w := by
 go_enter Tryz.func38, Tryz.ntmps38
 go_wp2
 go_ret
 exact ⟨rfl, rfl⟩
end Two
namespace Two
open Go.RowKit Go.ChangeMaps
attribute [local go_sem] ak_ af_ aq_ be_ bf_ bg_ a6_ a7_ a8_ cb_ run_makeMap
theorem wpList_load_mid {P : Program} {ops : Array Oper} {rest : List Oper} {o : Oper} {a : Act} {w : World} {Q : Exit → Act → World → Prop} (hgd : o.guard = none) (ty : TypeId) (x : Operand) (ho : o.op = .load ty x)
 (b off : Nat) (hx : a.eval x = .pointer (some ⟨b, off, none⟩)) (cs : List Value) (d : TypeDesc) (hc : w.rangeAt b off cs)
 (hu : P.underlying ty = some d) (hd : d.isRow = true) (hi : (P.info? ty).map (·.size) = some cs.length)
 (h : wpList P ops Q rest (a.put o.dst (.agg cs.toArray)) w) : wpList P ops Q (o :: rest) a w := by
 refine wpList_plain hgd fun _ hK => ?_
 unfold Oper.wp
 simp [execOp, ho, hx, Instr.loadAt, Instr.sureAddr, run_loadVar_mid w b off ty cs d hc hu hd hi]
 exact hK _ _ h
theorem row_range {w : World} {base : Nat} {e : TypeId} {size g cap : Nat} {n : Nat} {xs : List Value} (h : w.ownsRow base e size (.slice (some ⟨g, 0, none⟩) n cap) n xs) : w.rangeAt g 0 xs := fun j v hv => by
 rw [Nat.zero_add]; exact (row_cell h j hv).1
theorem jl_ (t : Tmp) (B : IB) (x y : Int) (o : Oper) (a : Act) (w : World) (ho : o.op = .buildSlice 128 1 #[(0, .tmp t)]) (ht : a.tmps[t]?.getD undef = .agg (modC B x y).toArray) :
 (execOp a.eval o).run Tryz.prog w = .ok (.value (sl 1 w.heap.size)) (w.alloc (.cells (modC B x y).toArray 127)) := by
 unfold modC aa_ at *
 unfold sl
 simp [execOp, ho, ht, go_sem]
theorem lp_ (B : IB) (x y : Int) : (Tryz.prog.info? 127).map (·.size) = some (modC B x y).toArray.size := by unfold modC aa_; kernel_rfl
theorem tv_ (B : IB) (x y : Int) : (Tryz.prog.info? 127).map (·.size) = some (modC B x y).length := by unfold modC aa_; kernel_rfl
theorem tw_ (B : IB) (x y : Int) : (modC B x y).toArray.all (·.oneCell') = true := by unfold modC aa_; simp [Value.oneCell']
theorem ru_ (B : IB) (x y : Int) : (modC B x y)[(13 : Nat)]? = some (.slice none 0 0) := by unfold modC aa_; rfl
attribute [local irreducible] aa_ modC
theorem lload (l s b st mo th at_ : Nat) (L : List UInt8) (B : IB) (hB : B.bytes = ⟨L.toArray⟩) (hL : L.length = 256) (w : World) (hl : w.heap[l]? = some (.cells (bj_ s b st (.slice none 0 0) (.slice none 0 0)).toArray 167 (0, 0)))
 (hs : w.heap[st]? = some (.map #[⟨.string labS, .agg (aa_ B), 0⟩] 1)) (hsp : SpaceAt w s (.slice none 0 0) [])
 (hbb : w.heap[b]? = some (.cells (cv_ s mo th at_).toArray 164 (0, 0))) (hmo : w.heap[mo]? = some (.map #[] 0)) (hth : w.heap[th]? = some (.map #[] 0)) (nmt : mo ≠ th) (hD : a5_ w B.gd) :
 Calls Tryz.prog 66 #[.pointer (some ⟨l, 0, none⟩), .string labS, .int .i64 0, .bool true] w fun e w' => ∃ go co gm cm gq cq, e = .returned (.tuple #[.slice (some ⟨go, 0, none⟩) 1 co, .int .i64 0]) ∧
  Only (fun k => k = l ∨ k = s ∨ k = mo) w w' ∧ w'.heap[l]? = some (.cells (bj_ s b st (.slice (some ⟨gm, 0, none⟩) 1 cm) (.slice (some ⟨gq, 0, none⟩) 1 cq)).toArray 167 (0, 0)) ∧
  w'.ownsRow w.heap.size 127 32 (.slice (some ⟨gm, 0, none⟩) 1 cm) 1 (modC B 512 1) ∧ w'.ownsRow w.heap.size 3 1 (.slice (some ⟨gq, 0, none⟩) 1 cq) 1 [.int .i64 0] ∧
  w'.ownsRow w.heap.size 3 1 (.slice (some ⟨go, 0, none⟩) 1 co) 1 [.int .i64 0] ∧ w'.heap[mo]? = some (.map #[⟨.int .i64 0, .agg (aa_ B), 0⟩] 1) ∧
  ∃ g cap b1, SpaceAt w' s (.slice (some ⟨g, 0, none⟩) 1 cap) [fm_ L b1] ∧ w.heap.size ≤ g ∧ w.heap.size ≤ b1 := by
 have hsz := gm_ hB hL
 have HB := h2_ hB hL
 have HH := h7_ hl hs hsp hbb hmo hth nmt
 have HS := h1_ hsz
 have HD := h1_ hD
 clear hD
 clear hB hL hl hs hsp hbb hmo hth nmt hsz
 go_enter Tryz.func66, Tryz.ntmps66
 go_wp2_with fail
 refine (wv_ l s b st B HS.out _ HH.out.1 HH.out.2.1 HD.out).mono ?_
 rintro e w1 ⟨t, nm, gt, ct, rfl, hb1, ht1, ltt, hown1⟩
 have c0 := ab_ ht1 0 rfl; have c1 := ab_ ht1 1 rfl
 have lt1 := lt_of_block ht1
 have lg1 := (ah_ hown1).2.1
 have H1 := h3_ hb1 ht1 hown1
 clear hb1 ht1 hown1
 go_wp2
 refine wp_loop_rounds 2 ?_
 rw [rounds_succ]
 go_upto_region 7 with (first
  | (refine wpList_load_mid rfl 127 (.tmp 41) rfl gt 0 rfl (modC B 0 1) _ (row_range H1.out.2.2) Tryz.underlying127 rfl (tv_ B 0 1) ?_)
  | ((with_reducible refine ad_ ?_); refine wpList_store_row rfl 127 _ _ rfl _ _ rfl rfl _ _ (by (repeat (first | assumption | exact heap_alloc_new _ _ | refine ae_ ?_ | refine az_ ?_ | apply setRow_heap | (refine (setRow_other _ _ _ _ ?_).trans ?_; omega)))) (lp_ B 0 1) (by unfold modC aa_; rfl) (tw_ B 0 1) ?_; (try simp only [World.setRow_alloc_new])))
 obtain ⟨hl, hs, hsp, hbb, hmo, hth, nmt⟩ := HH.out
 have kB : Below w.heap.size w (w1.alloc (.cells (modC B 0 1).toArray 127)) := H1.out.1.alloc H1.out.1.size _
 have kl := at_b kB hl
 have kb := at_b kB hbb
 have km := at_b kB hmo
 have kh := at_b kB hth
 have ksp := hsp.below kB
 have HKD := h1_ (show a5_ _ B.gd from at_b kB HD.out)
 have kx := heap_alloc_new w1 (.cells (modC B 0 1).toArray 127)
 have lw := H1.out.1.size
 have HK := h7_ kB kl kb km kh ksp kx
 clear hl hs hsp hbb hmo hth kB kl kb km kh ksp kx
 go_upto_region 10 with (go_at_call 150; refine (lplace l s b st w1.heap.size mo th at_ L B HB.out.1 HB.out.2 _ HK.out.2.1 HK.out.2.2.2.2.2.2 HK.out.2.2.2.2.2.1 HK.out.2.2.1 HK.out.2.2.2.1 HK.out.2.2.2.2.1 nmt HKD.out).mono ?_; rintro e w2 ⟨rfl, ho2, hx2, hm2, g, cap, b1, hsp2, lg, lb1⟩; have H2 := h4_ ho2 hx2 hm2 hsp2; clear ho2 hx2 hm2 hsp2)
 obtain ⟨kB, kl, kb, km, kh, ksp, kx⟩ := HK.out
 obtain ⟨ho2, hx2, hm2, hsp2⟩ := H2.out
 simp at lg lb1
 have nlx : l ≠ w1.heap.size := by have := lt_of_block HH.out.1; omega
 have yo : Only (fun k => k = l ∨ k = s ∨ k = mo) w w2 := (Only.of_below kB).then ho2 (by rintro k hk (h | h | h); exact .inr (.inl h); omega; exact .inr (.inr h))
 have nls : l ≠ s := am_ kl ksp.head (by decide)
 have nlm : l ≠ mo := by intro h; rw [h, km] at kl; simp at kl
 have yl := ho2.kept kl (by rintro (h | h | h); exact nls h; exact nlx h; exact nlm h)
 have lt2 : t < w2.heap.size := by have := ho2.size; simp at this; omega
 have yt := ho2.kept (ae_ H1.out.2.1) (by rintro (h | h | h); have := lt_of_block HH.out.2.2.1.head; omega; omega; have := lt_of_block HH.out.2.2.2.2.1; omega)
 have ls2 := hsp2.lt
 have HY := h4_ yo hm2 hsp2 yt
 have HG := h4_ lg lb1 nls nlm
 have llw := lt_of_block HH.out.1
 unfold bj_ at yl
 clear kB kb km kh ksp kx ho2 hm2 hsp2 kl HK H2 lg lb1 yo yt c0 c1 lt1 lg1 ls2 H1
 refine wr_ [.pt l 0, .pt l 0, .pt l 0, .pt l 4, .val (.slice none 0 0), .val (.slice none 0 0), .val (.agg ((modC B 512 1).toArray)), .blk (sl 1) (.cells (modC B 512 1).toArray 127 (0, 0)), .more (fun v w' => ∃ g cap, v = .slice (some ⟨g, 0, none⟩) 1 cap ∧ w'.ownsRow w2.heap.size 127 32 (.slice (some ⟨g, 0, none⟩) 1 cap) 1 (modC B 512 1)) (fun v w' w'' hb h => by obtain ⟨g, cap, h1, h3⟩ := h; exact ⟨g, cap, h1, ai_ h3 hb⟩), .pt l 0, .pt l 4] (by kernel_rfl) (by kernel_rfl) ?_ ?_
 · simp only [ck_, List.take, List.length]
   refine ⟨?_, ?_, ?_, ?_, ?_, ?_, ?_, ?_, ?_, ?_, ?_, ?_⟩
   all_goals first | trivial | (intro a wr hb hf hd)
   all_goals have hf0 : zp_ a 0 l 0 := (hf 0).trans rfl
   all_goals have hf13 : zp_ a 13 w1.heap.size 0 := (hf 13).trans rfl
   · exact as_ _ rfl ⟨hf0, fun h => by cases h⟩
   · exact as_ _ rfl ⟨hf0, fun h => by cases h⟩
   · have h59 : z_ a 59 _ := hd 1
     exact gp_ (by simp [execOp, h59, go_sem])
   · have h60 : z_ a 60 _ := hd 2
     exact gp_ (by simp [execOp, h60, go_sem])
   · have h61 : z_ a 61 _ := hd 3
     have hc := ab_ (at_b hb yl) 4 (rfl)
     exact gp_ (by simp [execOp, h61, hc, go_sem])
   · have h62 : z_ a 62 _ := hd 4
     refine cu_ (f := 152) (args := #[.slice none 0 0]) (by simp [execOp, h62, go_sem]) ?_
     refine (lo_ _).mono ?_
     rintro e w3 ⟨rfl, rfl⟩
     exact ⟨_, rfl, Below.refl _ _, rfl, fun h => by cases h⟩
   · exact c9_ 13 127 rfl w1.heap.size hf13 _ _ _ _ (at_b hb hx2) Tryz.underlying127 rfl (lp_ B 512 1) ⟨rfl, fun h => by cases h⟩
   · have h64 : z_ a 64 _ := hd 6
     exact av_ (jl_ 64 B 512 1 _ _ _ rfl h64) ((Below.refl _ _).alloc (Nat.le_refl _) _) ⟨⟨_, rfl, heap_alloc_new _ _⟩, fun _ b hb => b2_ hb⟩
   · have h63 : z_ a 63 _ := hd 5
     obtain ⟨q, h65, hq⟩ : ∃ q, a.tmps[(65 : Nat)]?.getD undef = sl 1 q ∧ wr.heap[q]? = some (.cells (modC B 512 1).toArray 127 (0, 0)) := hd 7
     refine ca_ 63 65 128 127 (.agg ji_) 32 568 rfl Tryz.underlying128 info_mod rfl (by omega) q 1 (modC B 512 1) h63 h65 hq (ix_ B 512 1) (iy_ B 512 1) (by omega) ?_
     intro cap w' ho hb'
     exact ⟨⟨_, cap, rfl, ap_ ho hb.size⟩, fun h => by cases h⟩
   · have h58 : z_ a 58 _ := hd 0
     exact gp_ (by simp [execOp, h58, go_sem])
   · have h67 : z_ a 67 _ := hd 9
     exact gp_ (by simp [execOp, h67, go_sem])
 · intro fv w3 hb3 hs hn hne
   obtain ⟨gm, cm, g66, hownm⟩ : ∃ g cap, fv 66 = .slice (some ⟨g, 0, none⟩) 1 cap ∧ w3.ownsRow w2.heap.size 127 32 (.slice (some ⟨g, 0, none⟩) 1 cap) 1 (modC B 512 1) := hs 8 (by simp)
   rw [facv hs [58, 59, 60, 61, 62, 63, 64, 65, 66, 67, 68] (by kernel_rfl)]
   simp only [actG, Act.put, List.drop, List.length, g66, List.setIfInBounds_toArray, List.set_cons_zero, List.set_cons_succ]
   clear hs hn hne g66
   have zl := at_b hb3 yl
   have c4 := ab_ zl 4 rfl; have f4 := ag_ zl 4
   have HZ := h6_ (HY.out.1.call hb3) (at_b hb3 HY.out.2.1) (HY.out.2.2.1.below hb3) ((hb3.block _ lt2).trans HY.out.2.2.2) zl hownm
   have lgm := (ah_ hownm).1
   have lgm2 := (ah_ hownm).2.1
   have l23 := hb3.size
   have l12 := HY.out.1.size
   clear zl hb3 hownm yl hx2 HY
   go_upto_region 11 with fail
   refine ac_ fun V hV => ?_
   obtain ⟨zo, zm, zsp, zt, zl, zown⟩ := HZ.out
   have nlt : l ≠ t := by omega
   have ngl : gm ≠ l := by omega
   have vo : Only (fun k => k = l ∨ k = s ∨ k = mo) w V := by rw [← hV]; exact zo.setCell _ _ (.inl (.inl rfl))
   have vv : Only (· = l) w3 V := by rw [← hV]; exact (Only.refl _ _).setCell _ _ (.inl rfl)
   have vl : V.heap[l]? = some (.cells (bj_ s b st (.slice (some ⟨gm, 0, none⟩) 1 cm) (.slice none 0 0)).toArray 167 (0, 0)) := by rw [← hV]; exact aj_ zl 4 _
   have vm := vv.kept zm (fun h => HG.out.2.2.2 h.symm)
   have vt := vv.kept zt (fun h => nlt h.symm)
   have vown := ao_ zown vv ngl
   have vsp : SpaceAt V s (.slice (some ⟨g, 0, none⟩) 1 cap) [fm_ L b1] := zsp.kept vv (by
    have := HG.out
    rintro k hk (rfl : k = l)
    rcases hk with h | h | ⟨p, hp, h⟩
    · exact this.2.2.1 h
    · simp [Value.ownBlock] at h; omega
    · simp at hp; subst hp; simp [fm_, bt_, Part.put] at h; omega)
   have e0 := ab_ vt 0 rfl; have e1 := ab_ vt 1 rfl; have e3 := ab_ vt 3 rfl
   have d13 := (row_cell vown 13 (ru_ B 512 1)).1
   have vl' := vl
   unfold bj_ at vl'
   have e4 := ab_ vl' 4 rfl; have e5 := ab_ vl' 5 rfl
   have lv3 := vv.size
   have ltV := lt_of_block vt
   have lgV := (ah_ vown).2.1
   have llV := lt_of_block vl
   have HV := h6_ vo vm vsp vl vt vown
   clear zo zm zsp zt zl zown vo vv vm vsp vown hV HZ c4 f4 vl' vl
   go_wp2
   rw [rounds_succ]
   go_wp2
   refine wp_loop_rounds 2 ?_
   rw [rounds_succ]
   go_wp2
   refine wp_loop_rounds 1 ?_
   rw [rounds_succ]
   go_wp2
   rw [rounds_succ]
   go_upto_region 23 with fail
   refine wr_ [.pt t 0, .pt t 0, .pt t 1, .val (.slice (some ⟨gt, 0, none⟩) 1 ct), .val (.int .i64 1), .pt t 0, .pt t 0, .pt t 3, .val (.slice none 0 0), .more (fun v w' => ∃ g cap g7 c7, v = .slice (some ⟨g, 0, none⟩) 1 cap ∧ w'.ownsRow V.heap.size 38 1 (.slice (some ⟨g, 0, none⟩) 1 cap) 1 [.slice (some ⟨g7, 0, none⟩) 1 c7] ∧ w'.ownsRow V.heap.size 3 1 (.slice (some ⟨g7, 0, none⟩) 1 c7) 1 [.int .i64 0]) (fun v w' w'' hb h => by obtain ⟨g, cap, g7, c7, h1, h3, h4⟩ := h; exact ⟨g, cap, g7, c7, h1, ai_ h3 hb, ai_ h4 hb⟩), .val (.int .i64 1), .val (.int .i64 0)] (by kernel_rfl) (by kernel_rfl) ?_ ?_
   · simp only [ck_, List.take, List.length]
     refine ⟨?_, ?_, ?_, ?_, ?_, ?_, ?_, ?_, ?_, ?_, ?_, ?_, ?_⟩
     all_goals first | trivial | (intro a wr hb hf hd)
     all_goals have hf10 : zp_ a 10 t 0 := (hf 10).trans rfl
     · exact as_ _ rfl ⟨hf10, fun h => by cases h⟩
     · have h109 : z_ a 109 _ := hd 0
       exact gp_ (by simp [execOp, h109, go_sem])
     · have h110 : z_ a 110 _ := hd 1
       exact gp_ (by simp [execOp, h110, go_sem])
     · have h111 : z_ a 111 _ := hd 2
       have hc := ab_ (at_b hb vt) 1 (rfl)
       exact gp_ (by simp [execOp, h111, hc, go_sem])
     · have h112 : z_ a 112 _ := hd 3
       exact gp_ (by simp [execOp, h112, go_sem])
     · exact as_ _ rfl ⟨hf10, fun h => by cases h⟩
     · have h114 : z_ a 114 _ := hd 5
       exact gp_ (by simp [execOp, h114, go_sem])
     · have h115 : z_ a 115 _ := hd 6
       exact gp_ (by simp [execOp, h115, go_sem])
     · have h116 : z_ a 116 _ := hd 7
       have hc := ab_ (at_b hb vt) 3 (rfl)
       exact gp_ (by simp [execOp, h116, hc, go_sem])
     · have h113 : z_ a 113 _ := hd 4
       have h117 : z_ a 117 _ := hd 8
       refine cu_ (f := 154) (args := #[.int .i64 1, .slice none 0 0]) (by simp [execOp, h113, h117, go_sem]) ?_
       refine (p9_ _).mono ?_
       rintro e w3 ⟨go, co, g7, c7, rfl, hb3, hown, hown2⟩
       exact ⟨_, rfl, hb3, ⟨go, co, g7, c7, rfl, ap_ hown hb.size, ap_ hown2 hb.size⟩, fun h => by cases h⟩
     · obtain ⟨g, cap, g7, c7, h118, _⟩ : ∃ g cap g7 c7, a.tmps[(118 : Nat)]?.getD undef = .slice (some ⟨g, 0, none⟩) 1 cap ∧ _ := hd 9
       exact gp_ (by simp [execOp, h118, go_sem])
     · exact gp_ (by simp [execOp, go_sem])
   · intro fp w4 hb4 hs hn hne
     obtain ⟨gp, cp, g7, c7, g118, hp, hp7⟩ : ∃ g cap g7 c7, fp 118 = .slice (some ⟨g, 0, none⟩) 1 cap ∧ w4.ownsRow V.heap.size 38 1 (.slice (some ⟨g, 0, none⟩) 1 cap) 1 [.slice (some ⟨g7, 0, none⟩) 1 c7] ∧ w4.ownsRow V.heap.size 3 1 (.slice (some ⟨g7, 0, none⟩) 1 c7) 1 [.int .i64 0] := hs 9 (by simp)
     rw [facv hs [109, 110, 111, 112, 113, 114, 115, 116, 117, 118, 119, 120] (by kernel_rfl)]
     simp only [actG, Act.put, List.drop, List.length, g118, List.setIfInBounds_toArray, List.set_cons_zero, List.set_cons_succ]
     clear hs hn hne g118
     obtain ⟨vo, vm, vsp, vl, vt', vown⟩ := HV.out
     have xo := vo.call hb4
     have xl := at_b hb4 vl
     have xt := at_b hb4 vt
     have q0 := ab_ xt 0 rfl
     have qp := (row_cell hp 0 rfl).1
     have q7 := (row_cell hp7 0 rfl).1
     have lgp := (ah_ hp).2.1
     have lg7 := (ah_ hp7).2.1
     have lt4 := lt_of_block xt
     have HX := h5_ xo (at_b hb4 vm) (vsp.below hb4) xl (ai_ vown hb4)
     have l4 := hb4.size
     clear vo vm vsp vl vt' vown xo xl xt hb4 vt HV e0 e1 e3 e4 e5 d13 hp hp7
     go_wp2
     refine wp_loop_rounds 2 ?_
     rw [rounds_succ]
     go_wp2
     refine wp_loop_rounds 2 ?_
     rw [rounds_succ]
     go_wp2_with (at_builtin; refine d1_ rfl (.tmp 130) (.tmp 137) 38 3 (.int .i64 0) 1 8 rfl Tryz.underlying38 f2_ rfl (by omega) w4.heap.size 1 [.int .i64 0] rfl rfl (heap_alloc_new _ _) rfl (by simp [Value.oneCell']) (by omega) (w4.heap.size + 1) (by simp) ?_; intro cap5 w5 hown5 hb5; have H5 := h2_ hown5 (hb5.mono (Nat.le_succ w4.heap.size)); clear hown5 hb5)
     obtain ⟨hown5, hb5⟩ := H5.out
     have hB5 : Below w4.heap.size w4 w5 := ((Below.refl _ w4).alloc (Nat.le_refl _) _).trans hb5
     have yl := at_b hB5 HX.out.2.2.2.1
     unfold bj_ at yl
     have p5 := ab_ yl 5 rfl
     have HY := h2_ hB5 hown5
     have l5 := hB5.size
     clear hown5 hb5 hB5 H5 yl q0 qp q7
     rw [rounds_succ]
     go_wp2
     rw [rounds_succ]
     go_upto_region 32 with fail
     obtain ⟨i0, hi, hz0, hz1, hz2⟩ := info_parts f2_
     have HI := h4_ hi hz0 hz1 hz2
     clear hi hz0 hz1 hz2
     go_wp2_with (first
      | (go_at_call 38; refine (hi_ _).mono ?_; rintro e wz ⟨rfl, hwz⟩; rw [hwz]; clear hwz wz)
      | (at_builtin; refine wpList_append_lies _ rfl (.tmp 146) (.tmp 147) 38 rfl w4.heap.size 3 i0 (.int .i64 0) 1 8 Tryz.underlying38 HI.out.1 HI.out.2.1 HI.out.2.2.1 HI.out.2.2.2 rfl (by omega) (.slice none 0 0) 0 [] rfl (World.ownsRow_nil _ _ _ _) ⟨w4.heap.size + 1, 0, none⟩ 1 cap5 [.int .i64 0] rfl rfl (HY.out.2.cells rfl) (by simp [Value.oneCell']) (by omega) (by unfold maxLen; omega) (by omega) (by omega) w5.heap.size rfl ?_;
         intro g6 cap6 w6 hown6 hgrow hat hlt6
         have hb6 : Below w5.heap.size w5 w6 := ⟨hgrow.os, hgrow.tape, hgrow.output, hgrow.size, fun k hk => hgrow.block k hk (by simp [Value.ownBlock])⟩
         have yl := ((HY.out.1.trans (hb6.mono l5)).block _ (lt_of_block HX.out.2.2.2.1)).trans HX.out.2.2.2.1
         unfold bj_ at yl
         have r5 := ab_ yl 5 rfl
         have s5 := ag_ yl 5
         have lg6 : w4.heap.size ≤ g6 := (ah_ hown6).1
         have H6 := h3_ hb6 yl hown6
         clear hb6 yl hown6 hgrow hat))
     go_ret2
     obtain ⟨xo, xm, xsp, xl, xown⟩ := HX.out
     obtain ⟨hB5, hown5⟩ := HY.out
     obtain ⟨hb6, yl, hown6⟩ := H6.out
     have hB : Below w4.heap.size w4 w6 := hB5.trans (hb6.mono l5)
     have hs : Only (· = l) w6 (w6.setCell ⟨l, 5, none⟩ (.slice (some ⟨g6, 0, none⟩) 1 cap6)) := (Only.refl _ _).setCell _ _ (.inl rfl)
     have llw4 := lt_of_block xl
     have hg6 := HG.out
     have hm6 := at_b hB xm
     refine ⟨w4.heap.size + 1, cap5, gm, cm, g6, cap6, rfl, (xo.call hB).then hs (by rintro k _ h; exact .inl h), aj_ yl 5 _, ?_, ?_, ?_, hs.kept hm6 (fun h => HG.out.2.2.2 h.symm), g, cap, b1, ?_, ?_, ?_⟩
     · exact ao_ (ai_ (ap_ xown (by omega)) hB) hs ngl
     · exact ao_ (ap_ hown6 (by omega)) hs (show ¬ g6 = l by omega)
     · exact ao_ (ai_ (ap_ hown5 (by omega)) hb6) hs (show ¬ w4.heap.size + 1 = l by omega)
     · refine (xsp.below hB).kept hs ?_
       rintro k hk (rfl : k = l)
       rcases hk with h | h | ⟨p, hp, h⟩
       · exact hg6.2.2.1 h
       · simp [Value.ownBlock] at h; omega
       · simp at hp; subst hp; simp [fm_, bt_, Part.put] at h; omega
     · omega
     · omega
end Two
end Go.Proofs.YtacaejpamidkcaaGreatDoor
