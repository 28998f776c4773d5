/- load: functions, inits, Start, Mods. proc: spawn. proc: New. proc: New, and where its memory lies. What stands behind stores of several cells. Small laws that the texts on the machine share. -/
import Derived.Test.YtacaejpamidkcaaGreatDoorR23
set_option linter.unusedVariables false
set_option linter.unusedSimpArgs false
set_option maxRecDepth 100000
set_option maxHeartbeats 2000000
namespace Go.Proofs.YtacaejpamidkcaaGreatDoor
namespace Two
open Go.RowKit Go.ChangeMaps
attribute [local go_sem] ak_ af_ aq_ be_ bf_ bg_ a6_ a7_ a8_ cb_ run_makeMap
attribute [local irreducible] aa_ modC
theorem linits1 (B : IB) (w : World) : Calls Tryz.prog 156 #[.agg (aa_ B)] w fun e w' => e = .returned (.slice none 0 0) ∧ Below w.heap.size w w' := by
 have hg := heap_alloc_new w (.cells (aa_ B) 52)
 have c14 := al_ (v := .slice none 0 0) hg 14 (by unfold aa_; rfl)
 clear hg
 go_enter Tryz.func156, Tryz.ntmps156
 go_wp2
 go_ret
 exact ⟨rfl, by go_grown⟩
theorem tx_ {w : World} {base g cap : Nat} {B : IB} {x y : Int} (h : w.ownsRow base 127 32 (.slice (some ⟨g, 0, none⟩) 1 cap) 1 (modC B x y)) : w.rangeAt g 0 (aa_ B).toList := fun j v hv => by
 rw [Nat.zero_add]; exact (row_cell h j (lm_ B x y j v hv)).1
theorem rv_ (l s b st gm cm go co : Nat) (ord : Value) (B : IB) (w : World) (hl : w.heap[l]? = some (.cells (bj_ s b st (.slice (some ⟨gm, 0, none⟩) 1 cm) ord).toArray 167 (0, 0)))
 (hm : w.ownsRow 0 127 32 (.slice (some ⟨gm, 0, none⟩) 1 cm) 1 (modC B 512 1)) (ho : w.ownsRow 0 3 1 (.slice (some ⟨go, 0, none⟩) 1 co) 1 [.int .i64 0]) :
 Calls Tryz.prog 155 #[.pointer (some ⟨l, 0, none⟩), .slice (some ⟨go, 0, none⟩) 1 co, .func (.func 156) #[] #[]] w fun e w' => e = .returned (.slice none 0 0) ∧ Below w.heap.size w w' := by
 have ll := lt_of_block hl
 unfold bj_ at hl
 have c4 := ab_ hl 4 rfl
 have q0 := (row_cell ho 0 rfl).1
 have HM := h1_ hm
 have lg := (ah_ hm).2.1
 have lgo := (ah_ ho).2.1
 clear hl hm ho
 go_enter Tryz.func155, Tryz.ntmps155
 go_wp2
 refine wp_loop_rounds 2 ?_
 rw [rounds_succ]
 go_wp2_with (first
  | (refine wpList_load_mid rfl 52 (.tmp 25) rfl gm 0 rfl (aa_ B).toList _ (tx_ HM.out) Tryz.underlying52 rfl (qa_ B) ?_)
  | (go_at_call 156; refine (linits1 B _).mono ?_; rintro e w1 ⟨rfl, hb1⟩; have H1 := h1_ hb1; clear hb1))
 refine wp_loop_rounds 1 ?_
 rw [rounds_succ]
 go_wp2
 rw [rounds_succ]
 go_wp2
 go_ret
 exact ⟨rfl, H1.out⟩
theorem linits (l s b st gm cm go co : Nat) (ord : Value) (B : IB) (w : World) (hl : w.heap[l]? = some (.cells (bj_ s b st (.slice (some ⟨gm, 0, none⟩) 1 cm) ord).toArray 167 (0, 0)))
 (hm : w.ownsRow 0 127 32 (.slice (some ⟨gm, 0, none⟩) 1 cm) 1 (modC B 512 1)) (ho : w.ownsRow 0 3 1 (.slice (some ⟨go, 0, none⟩) 1 co) 1 [.int .i64 0]) :
 Calls Tryz.prog 67 #[.pointer (some ⟨l, 0, none⟩), .slice (some ⟨go, 0, none⟩) 1 co] w fun e w' => e = .returned (.slice none 0 0) ∧ Below w.heap.size w w' := by
 have HM := h3_ hl hm ho
 clear hl hm ho
 go_enter Tryz.func67, Tryz.ntmps67
 go_wp2_with (go_at_call 155; refine (rv_ l s b st gm cm go co ord B _ HM.out.1 HM.out.2.1 HM.out.2.2).mono ?_; rintro e w1 ⟨rfl, hb1⟩; have H1 := h1_ hb1; clear hb1)
 go_ret
 exact ⟨rfl, H1.out⟩
structure Loaded (L : List UInt8) (B : IB) (l s b st mo : Nat) (N : Nat) (w : World) (gm cm gq cq g cap b1 : Nat) : Prop where
 head : w.heap[l]? = some (.cells (bj_ s b st (.slice (some ⟨gm, 0, none⟩) 1 cm) (.slice (some ⟨gq, 0, none⟩) 1 cq)).toArray 167 (0, 0))
 mods : w.ownsRow N 127 32 (.slice (some ⟨gm, 0, none⟩) 1 cm) 1 (modC B 512 1)
 order : w.ownsRow N 3 1 (.slice (some ⟨gq, 0, none⟩) 1 cq) 1 [.int .i64 0]
 known : w.heap[mo]? = some (.map #[⟨.int .i64 0, .agg (aa_ B), 0⟩] 1)
 space : SpaceAt w s (.slice (some ⟨g, 0, none⟩) 1 cap) [fm_ L b1]
 new0 : N ≤ g
 new1 : N ≤ b1
theorem lstart (l s b st mo th at_ : Nat) (L : List UInt8) (B : IB) (hB : B.bytes = ⟨L.toArray⟩) (hL : L.length = 256) (w : World) (hl : w.heap[l]? = some (.cells (bj_ s b st (.slice none 0 0) (.slice none 0 0)).toArray 167 (0, 0)))
 (hs : w.heap[st]? = some (.map #[⟨.string labS, .agg (aa_ B), 0⟩] 1)) (hsp : SpaceAt w s (.slice none 0 0) [])
 (hbb : w.heap[b]? = some (.cells (cv_ s mo th at_).toArray 164 (0, 0))) (hmo : w.heap[mo]? = some (.map #[] 0)) (hth : w.heap[th]? = some (.map #[] 0)) (nmt : mo ≠ th) (hD : a5_ w B.gd) :
 Calls Tryz.prog 35 #[.pointer (some ⟨l, 0, none⟩), .string labS] w fun e w' => e = .returned (.tuple #[.slice none 0 0, .int .i64 0]) ∧
  Only (fun k => k = l ∨ k = s ∨ k = mo) w w' ∧ ∃ gm cm gq cq g cap b1, Loaded L B l s b st mo w.heap.size w' gm cm gq cq g cap b1 := by
 have HH := h7_ hl hs hsp hbb hmo hth nmt
 have HB := h2_ hB hL
 have HD := h1_ hD
 clear hD
 have ll := lt_of_block hl
 unfold bj_ at hl
 have c4 := ab_ hl 4 rfl
 clear hB hL hl hs hsp hbb hmo hth nmt
 go_enter Tryz.func35, Tryz.ntmps35
 go_wp2_with (first
  | (go_at_call 66; refine (lload l s b st mo th at_ L B HB.out.1 HB.out.2 _ HH.out.1 HH.out.2.1 HH.out.2.2.1 HH.out.2.2.2.1 HH.out.2.2.2.2.1 HH.out.2.2.2.2.2.1 HH.out.2.2.2.2.2.2 HD.out).mono ?_
     rintro e w1 ⟨go, co, gm, cm, gq, cq, rfl, ho1, hl1, hown1, hq1, hgo1, hm1, g, cap, b1, hsp1, lg, lb1⟩
     have H1 := h9_ ho1 hl1 hown1 hq1 hgo1 hm1 hsp1 lg lb1
     clear ho1 hl1 hown1 hq1 hgo1 hm1 hsp1 lg lb1)
  | (go_at_call 67; refine (linits l s b st gm cm go co (.slice (some ⟨gq, 0, none⟩) 1 cq) B _ H1.out.2.1 (ap_ H1.out.2.2.1 (Nat.zero_le _)) (ap_ H1.out.2.2.2.2.1 (Nat.zero_le _))).mono ?_; rintro e w2 ⟨rfl, hb2⟩; have H2 := h1_ hb2; clear hb2))
 go_ret2
 obtain ⟨ho1, hl1, hown1, hq1, hgo1, hm1, hsp1, lg, lb1⟩ := H1.out
 have hb2 := H2.out
 exact ⟨rfl, ho1.call hb2, gm, cm, gq, cq, g, cap, b1, ⟨at_b hb2 hl1, ai_ hown1 hb2, ai_ hq1 hb2, at_b hb2 hm1, hsp1.below hb2, lg, lb1⟩⟩
theorem lmods (l s b st gm cm : Nat) (ord : Value) (B : IB) (w : World) (hl : w.heap[l]? = some (.cells (bj_ s b st (.slice (some ⟨gm, 0, none⟩) 1 cm) ord).toArray 167 (0, 0)))
 (hm : w.ownsRow 0 127 32 (.slice (some ⟨gm, 0, none⟩) 1 cm) 1 (modC B 512 1)) :
 Calls Tryz.prog 37 #[.pointer (some ⟨l, 0, none⟩)] w fun e w' => Below w.heap.size w w' ∧ ∃ g c, e = .returned (.slice (some ⟨g, 0, none⟩) 1 c) ∧ w'.ownsRow w.heap.size 127 32 (.slice (some ⟨g, 0, none⟩) 1 c) 1 (modC B 512 1) := by
 have HM := h1_ hm
 have ll := lt_of_block hl
 unfold bj_ at hl
 have c4 := ab_ hl 4 rfl
 clear hl hm
 go_enter Tryz.func37, Tryz.ntmps37
 go_wp2_with (go_at_call 73; refine (rt_ gm 1 cm (modC B 512 1) _ (fun j u hj => (row_cell HM.out j hj).1) (ix_ B 512 1) (iy_ B 512 1) (by omega) (by omega) (ah_ HM.out).2.1).mono ?_; rintro e w1 ⟨hb1, g, c, rfl, hown1⟩; have H1 := h2_ hb1 hown1; clear hb1 hown1)
 go_ret
 exact ⟨H1.out.1, g, c, rfl, H1.out.2⟩
end Two
end Go.Proofs.YtacaejpamidkcaaGreatDoor
namespace Go.Proofs.YtacaejpamidkcaaGreatDoor
open Go.RowKit Go.ChangeMaps
theorem Only.transT {S T : Nat → Prop} {w w1 w2 : World} (h : Only S w w1) (k : Only T w1 w2) : Only (fun b => S b ∨ T b) w w2 := (h.mono (fun _ _ h => .inl h)).trans (k.mono (fun _ _ h => .inr h))
theorem SpaceAt.notCells {w : World} {s : Nat} {pv : Value} {ps : List Part} (h : SpaceAt w s pv ps) {b : Nat} {l : Array Value} {t : TypeId} {f : Nat × Nat} (hb : w.heap[b]? = some (.cells l t f))
 (h1 : t ≠ 159) (h2 : t ≠ 302) (h3 : t ≠ 5) : ¬ e1_ s pv ps b := by
 rintro (k | k | ⟨p, hp, k⟩)
 · exact am_ hb h.head h1 k
 · obtain ⟨cur, hc⟩ := b5_ h.row _ k
   exact am_ hb hc h2 rfl
 · obtain ⟨_, _, cur, hc, _⟩ := h.bytes.2 p hp
   exact am_ hb hc h3 k.symm
end Go.Proofs.YtacaejpamidkcaaGreatDoor
namespace Go.Proofs.YtacaejpamidkcaaGreatDoor.Two
open Go.RowKit Go.ChangeMaps
attribute [local go_sem] ak_ af_ aq_ be_ bf_ bg_ a6_ a7_ a8_ cb_ run_makeMap
attribute [local irreducible] aa_ modC
def es_ (s b l : Nat) (th : Value) : List Value := [.pointer (some ⟨s, 0, none⟩), .pointer (some ⟨b, 0, none⟩), .pointer (some ⟨l, 0, none⟩), th, .slice none 0 0, .slice none 0 0, .bool false, .bool false]
def dt_ (sp : Int) (calls : Value) : List Value := [.int .i64 0, .int .i64 0, .int .i64 0, .int .i64 0, .int .i64 0, .int .i64 0, .int .i64 0, .int .i64 0, .int .i64 0, .int .i64 0, .int .i64 0, .int .i64 0, .int .i64 0, .int .i64 0, .int .i64 0, .int .i64 sp,
 .int .i64 0, .int .i64 0, .int .i64 0, .int .i64 1024, .int .i64 1024, calls, .slice none 0 0]
def jm_ (b : Nat) : Part := bt_ 1024 1024 2 0 0 b
theorem qd_ (L : List UInt8) (b1 : Nat) : AreasOk [fm_ L b1] :=
 (jj_ b1).put 0 (by simp) 512 (L.take 256)
theorem cl_ {w : World} {b c : Nat} {o o' : Obj} (h : w.heap[b]? = some o) (k : w.heap[c]? = some o') (hne : o ≠ o') : b ≠ c := fun e => by subst e; rw [h] at k; exact hne (Option.some.inj k)
theorem end_cd (L : List UInt8) (b1 : Nat) : ∀ p ∈ [fm_ L b1], p.at_ + p.size ≤ 1024 := by
 intro p hp
 simp only [List.mem_cons, List.not_mem_nil, or_false] at hp
 subst hp
 show (512 : Int) + 256 ≤ 1024; decide
theorem free2 (L : List UInt8) (b1 : Nat) : oo_ [fm_ L b1] 1024 = 1024 := by kernel_rfl
theorem h0_ (t : Tmp) (x : Int) (c : Value) (o : Oper) (a : Act) (w : World) (ho : o.op = .buildSlice 115 1 #[(0, .tmp t)]) (ht : a.tmps[t]?.getD undef = .agg (dt_ x c).toArray) :
 (execOp a.eval o).run Tryz.prog w = .ok (.value (sl 1 w.heap.size)) (w.alloc (.cells (dt_ x c).toArray 133)) := by
 unfold dt_ at *
 unfold sl
 simp [execOp, ho, ht, go_sem]
theorem pspawn (p s b l mo th at_ g cap b1 : Nat) (L : List UInt8) (B : IB) (w : World) (hp : w.heap[p]? = some (.cells (es_ s b l (.slice none 0 0)).toArray 117 (0, 0)))
 (hsp : SpaceAt w s (.slice (some ⟨g, 0, none⟩) 1 cap) [fm_ L b1]) (hbb : w.heap[b]? = some (.cells (cv_ s mo th at_).toArray 164 (0, 0)))
 (hmo : w.heap[mo]? = some (.map #[⟨.int .i64 0, .agg (aa_ B), 0⟩] 1)) (hth : w.heap[th]? = some (.map #[] 0)) (hat : w.heap[at_]? = some (.map #[] 0)) (nat_ : at_ ≠ th) :
 Calls Tryz.prog 36 #[.pointer (some ⟨p, 0, none⟩), .int .i64 0, .int .i64 0] w fun e w' => e = .returned (.tuple #[.int .i64 0, .bool true]) ∧
  Only (fun k => k = p ∨ k = s ∨ k = g ∨ k = th) w w' ∧ ∃ gt ct g' cap' b3, w'.heap[p]? = some (.cells (es_ s b l (.slice (some ⟨gt, 0, none⟩) 1 ct)).toArray 117 (0, 0)) ∧
  w'.ownsRow w.heap.size 133 23 (.slice (some ⟨gt, 0, none⟩) 1 ct) 1 (dt_ 2040 (.slice none 0 0)) ∧ w'.heap[th]? = some (.map #[⟨.int .i64 0, .bool true, 0⟩] 1) ∧
  SpaceAt w' s (.slice (some ⟨g', 0, none⟩) 2 cap') [fm_ L b1, jm_ b3] ∧ (g' = g ∨ w.heap.size ≤ g') ∧ w.heap.size ≤ b3 := by
 have lp := lt_of_block hp
 have HP := h1_ hp
 have HH := h6_ hsp hbb hmo hth hat nat_
 unfold es_ at hp
 have c0 := ab_ hp 0 rfl; have c3 := ab_ hp 3 rfl
 clear hp hsp hbb hmo hth hat nat_
 go_enter Tryz.func36, Tryz.ntmps36
 go_wp2_with fail
 refine (wb_ s g cap [fm_ L b1] 1024 _ (qd_ L b1) HH.out.1 (by omega) (by omega)).mono ?_
 rintro e w1 ⟨rfl, hb1⟩
 rw [free2]
 have kp := at_b hb1 HP.out
 unfold es_ at kp
 have d0 := ab_ kp 0 rfl
 have lp1 := lt_of_block kp
 have H1 := h1_ hb1
 clear hb1 kp c0 c3
 go_wp2_with fail
 refine (map_row s g cap [fm_ L b1] 1024 1024 2 0 0 _ (qd_ L b1) (HH.out.1.below H1.out) (by omega) (by omega) (by decide) (by omega) (by omega) (by omega) (by omega) (by omega) (by simp) (by simp) (end_cd L b1)).mono ?_
 rintro e w2 ⟨rfl, ho2, pv2, b3, hsp2, lb3, hpv2⟩
 obtain ⟨g', cap', rfl, _⟩ := hsp2.parts (by simp)
 obtain ⟨hsp, hbb, hmo, hth, hat, nat_⟩ := HH.out
 have hp := HP.out
 obtain ⟨_, lg, cur, hg⟩ := ah_ hsp.row
 have np : ¬ (p = s ∨ Value.ownBlock (.slice (some ⟨g, 0, none⟩) 1 cap) = some p) := by
  rintro (h | h); exact am_ hp hsp.head (by decide) h; simp [Value.ownBlock] at h; exact am_ hp hg (by decide) h.symm
 have nb : ¬ (b = s ∨ Value.ownBlock (.slice (some ⟨g, 0, none⟩) 1 cap) = some b) := by
  rintro (h | h); exact am_ hbb hsp.head (by decide) h; simp [Value.ownBlock] at h; exact am_ hbb hg (by decide) h.symm
 have nm : ∀ k y c, w.heap[k]? = some (.map y c) → ¬ (k = s ∨ Value.ownBlock (.slice (some ⟨g, 0, none⟩) 1 cap) = some k) := by
  rintro k y c hk (h | h); exact cl_ hk hsp.head (by simp) h; simp [Value.ownBlock] at h; exact cl_ hk hg (by simp) h.symm
 have npm : ∀ k y c, w.heap[k]? = some (.map y c) → p ≠ k := fun k y c hk => cl_ hp hk (by simp)
 have nbm : ∀ k y c, w.heap[k]? = some (.map y c) → b ≠ k := fun k y c hk => cl_ hbb hk (by simp)
 have x1 := (Only.of_below (S := fun k => k = s ∨ Value.ownBlock (.slice (some ⟨g, 0, none⟩) 1 cap) = some k) H1.out).trans ho2
 have xp := x1.kept hp np
 have xb := x1.kept hbb nb
 have xm := x1.kept hmo (nm _ _ _ hmo)
 have xt := x1.kept hth (nm _ _ _ hth)
 have xa := x1.kept hat (nm _ _ _ hat)
 have l2 := x1.size
 have lg' : g' = g ∨ w.heap.size ≤ g' := by
  have := H1.out.size
  rcases hpv2 with h | ⟨q, h, hq⟩
  · simp [Value.ownBlock] at h; exact .inl h
  · simp [Value.ownBlock] at h; right; omega
 have lb3' : w.heap.size ≤ b3 := Nat.le_trans H1.out.size lb3
 have ntp : th ≠ p := fun h => npm th _ _ hth h.symm
 have HN := h5_ (npm th _ _ hth) (npm at_ _ _ hat) (nbm th _ _ hth) (nm _ _ _ hth) lb3'
 have H2 := h7_ x1 xp xb xm xt xa hsp2
 unfold es_ at xp
 have d1 := ab_ xp 1 rfl
 have lp2 := lt_of_block xp
 clear hsp hbb hmo hth hat hp hg np nb nm npm nbm x1 xp xb xm xt xa hsp2 ho2 lb3 hpv2 d0 lb3' ntp lg
 go_wp2_with fail
 refine (tthread b s mo th at_ B _ H2.out.2.2.1 H2.out.2.2.2.1 H2.out.2.2.2.2.1).mono ?_
 rintro e w3 ⟨rfl, ho3, ht3⟩
 obtain ⟨x1, xp, xb, xm, xt, xa, xsp⟩ := H2.out
 have yp := ho3.kept xp HN.out.1
 have yb := ho3.kept xb HN.out.2.2.1
 have ya := ho3.kept xa nat_
 have ysp := xsp.kept ho3 (by
  rintro k hk (rfl : k = th)
  have := lt_of_block HH.out.2.2.2.1
  rcases hk with h | h | ⟨q, hq, h⟩
  · exact HN.out.2.2.2.1 (.inl h)
  · simp [Value.ownBlock] at h
    rcases lg' with h' | h'
    · exact HN.out.2.2.2.1 (.inr (by simp [Value.ownBlock]; omega))
    · omega
  · obtain ⟨_, _, cur, hcur, _⟩ := xsp.bytes.2 q hq
    rw [h] at hcur
    rw [xt] at hcur
    simp at hcur)
 have H3 := h6_ (x1.transT ho3) yp yb ht3 ya ysp
 have l3 := ho3.size
 clear x1 xp xb xm xt xa xsp ho3 ht3 yp yb ya ysp d1 H2 lp2 nat_
 go_upto_region 10 with (((with_reducible refine ad_ ?_); refine sr_ rfl rfl (h := ?_); (try simp only [World.setRow_alloc_new])))
 refine ac_ fun V hV => ?_
 have vB : Below w3.heap.size w3 V := by rw [← hV]; go_grown
 have vx : V.heap[w3.heap.size]? = some (.cells (dt_ 0 (.slice none 0 0)).toArray 133 (0, 0)) := by rw [← hV]; exact heap_alloc_new _ _
 obtain ⟨x1, yp, yb, yt, ya, ysp⟩ := H3.out
 have vp := at_b vB yp
 have vb := at_b vB yb
 have va := at_b vB ya
 have HV := h7_ (x1.call vB) vp vb (at_b vB yt) va (ysp.below vB) vx
 have vp' := vp
 unfold es_ at vp'
 have d1 := ab_ vp' 1 rfl
 have vx' := vx
 unfold dt_ at vx'
 have e14 := ab_ vx' 14 rfl; have f14 := ag_ vx' 14; have e15 := ab_ vx' 15 rfl; have f15 := ag_ vx' 15
 have lv := vB.size
 have lxv := lt_of_block vx
 have lpv := lt_of_block vp
 clear hV vB vx x1 yp yb yt ya ysp vp vb va vp' vx' H3
 go_upto_region 12 with (go_at_call 72; refine (tat b s mo th at_ 0 0 0 _ HV.out.2.2.1 HV.out.2.2.2.2.1).mono ?_; rintro e wz ⟨rfl, hwz⟩; rw [← hwz]; clear hwz wz)
 refine ac_ fun X hX => ?_
 obtain ⟨vo, vp, vb, vt, va, vsp, vx⟩ := HV.out
 have npx : p ≠ w3.heap.size := by omega
 have xv : Only (· = w3.heap.size) V X := by rw [← hX]; exact ((Only.refl (· = w3.heap.size) V).setCell ⟨w3.heap.size, 14, none⟩ _ (.inl rfl)).setCell ⟨w3.heap.size, 15, none⟩ _ (.inl rfl)
 have xx : X.heap[w3.heap.size]? = some (.cells (dt_ 2040 (.slice none 0 0)).toArray 133 (0, 0)) := by rw [← hX]; exact aj_ (aj_ vx 14 _) 15 _
 have xp := xv.kept vp npx
 have HX := h3_ xv xx xp
 unfold es_ at xp
 have lxs := xv.size
 clear hX vo vp vb vt va vsp vx d1 e14 f14 e15 f15 xv
 refine wr_ [.pt p 0, .pt p 0, .pt p 0, .pt p 3, .val (.slice none 0 0), .val (.agg ((dt_ 2040 (.slice none 0 0)).toArray)), .blk (sl 1) (.cells (dt_ 2040 (.slice none 0 0)).toArray 133 (0, 0)), .more (fun v w' => ∃ g cap, v = .slice (some ⟨g, 0, none⟩) 1 cap ∧ w'.ownsRow X.heap.size 133 23 (.slice (some ⟨g, 0, none⟩) 1 cap) 1 (dt_ 2040 (.slice none 0 0))) (fun v w' w'' hb h => by obtain ⟨g, cap, h1, h3⟩ := h; exact ⟨g, cap, h1, ai_ h3 hb⟩), .pt p 0, .pt p 3] (by kernel_rfl) (by kernel_rfl) ?_ ?_
 · simp only [ck_, List.take, List.length]
   refine ⟨?_, ?_, ?_, ?_, ?_, ?_, ?_, ?_, ?_, ?_, ?_⟩
   all_goals first | trivial | (intro a wr hb hf hd)
   all_goals have hf0 : zp_ a 0 p 0 := (hf 0).trans rfl
   all_goals have hf10 : zp_ a 10 w3.heap.size 0 := (hf 10).trans rfl
   · exact as_ _ rfl ⟨hf0, fun h => by cases h⟩
   · exact as_ _ rfl ⟨hf0, fun h => by cases h⟩
   · have h72 : z_ a 72 _ := hd 1
     exact gp_ (by simp [execOp, h72, go_sem])
   · have h73 : z_ a 73 _ := hd 2
     exact gp_ (by simp [execOp, h73, go_sem])
   · have h74 : z_ a 74 _ := hd 3
     have hc := ab_ (at_b hb xp) 3 (rfl)
     exact gp_ (by simp [execOp, h74, hc, go_sem])
   · exact c9_ 10 133 rfl w3.heap.size hf10 _ _ _ _ (at_b hb xx) Tryz.underlying133 rfl (by kernel_rfl) ⟨rfl, fun h => by cases h⟩
   · have h76 : z_ a 76 _ := hd 5
     exact av_ (h0_ 76 _ _ _ _ _ rfl h76) ((Below.refl _ _).alloc (Nat.le_refl _) _) ⟨⟨_, rfl, heap_alloc_new _ _⟩, fun _ b hb => b2_ hb⟩
   · have h75 : z_ a 75 _ := hd 4
     obtain ⟨q, h77, hq⟩ : ∃ q, a.tmps[(77 : Nat)]?.getD undef = sl 1 q ∧ wr.heap[q]? = some (.cells (dt_ 2040 (.slice none 0 0)).toArray 133 (0, 0)) := hd 6
     refine ca_ 75 77 115 133 _ 23 216 rfl Tryz.underlying115 hh_ rfl (by omega) q 1 (dt_ 2040 (.slice none 0 0)) h75 h77 hq rfl (by simp [dt_, Value.oneCell']) (by omega) ?_
     intro cap w' ho hb'
     exact ⟨⟨_, cap, rfl, ap_ ho hb.size⟩, fun h => by cases h⟩
   · have h71 : z_ a 71 _ := hd 0
     exact gp_ (by simp [execOp, h71, go_sem])
   · have h79 : z_ a 79 _ := hd 8
     exact gp_ (by simp [execOp, h79, go_sem])
 · intro fv w4 hb4 hs hn hne
   obtain ⟨gt, ct, g78, hownt⟩ : ∃ g cap, fv 78 = .slice (some ⟨g, 0, none⟩) 1 cap ∧ w4.ownsRow X.heap.size 133 23 (.slice (some ⟨g, 0, none⟩) 1 cap) 1 (dt_ 2040 (.slice none 0 0)) := hs 7 (by simp)
   rw [facv hs [71, 72, 73, 74, 75, 76, 77, 78, 79, 80] (by kernel_rfl)]
   simp only [actG, Act.put, List.drop, List.length, g78, List.setIfInBounds_toArray, List.set_cons_zero, List.set_cons_succ]
   clear hs hn hne g78
   have zp := at_b hb4 HX.out.2.2
   have zp' := zp
   unfold es_ at zp'
   have c3 := ab_ zp' 3 rfl; have f3 := ag_ zp' 3
   have lgt := (ah_ hownt).1
   have HZ := h3_ hb4 zp hownt
   clear hb4 zp zp' hownt xp
   go_wp2
   go_ret2
   obtain ⟨hb4, zp, hownt⟩ := HZ.out
   obtain ⟨vo, vp, vb, vt, va, vsp, vx⟩ := HV.out
   obtain ⟨xv, xx, xp⟩ := HX.out
   have hs : Only (· = p) w4 (w4.setCell ⟨p, 3, none⟩ (.slice (some ⟨gt, 0, none⟩) 1 ct)) := (Only.refl _ _).setCell _ _ (.inl rfl)
   have a1 : Only (fun k => k = w3.heap.size ∨ k = p) V (w4.setCell ⟨p, 3, none⟩ (.slice (some ⟨gt, 0, none⟩) 1 ct)) := (xv.call hb4).transT hs
   refine ⟨rfl, (vo.transT a1).mono ?_, gt, ct, g', cap', b3, aj_ zp 3 _, ao_ (ap_ hownt (by omega)) hs (show ¬ gt = p by omega), a1.kept vt ?_, vsp.kept a1 ?_, lg', HN.out.2.2.2.2⟩
   · rintro k hk (((h | h) | h) | (h | h))
     · exact .inr (.inl h)
     · simp [Value.ownBlock] at h; exact .inr (.inr (.inl h.symm))
     · exact .inr (.inr (.inr h))
     · omega
     · exact .inl h
   · rintro (h | h)
     · have := lt_of_block HH.out.2.2.2.1; omega
     · exact HN.out.1 h.symm
   · rintro k hk (rfl | rfl)
     · exact vsp.notCells vx (by decide) (by decide) (by decide) hk
     · exact vsp.notCells vp (by decide) (by decide) (by decide) hk
end Go.Proofs.YtacaejpamidkcaaGreatDoor.Two
namespace Go.Proofs.YtacaejpamidkcaaGreatDoor
namespace Two
open Go.RowKit Go.ChangeMaps
attribute [local go_sem] ak_ af_ aq_ be_ bf_ bg_ a6_ a7_ a8_ cb_ run_makeMap
attribute [local irreducible] aa_ modC
attribute [local go_sem] dy_ d4_ ds_ eb_ d5_ d6_ ec_ ed_ ee_ ef_ db_ dc_ dd_ de_ df_ dg_ c1_ c2_ c3_ dh_ di_ c4_ dj_ dk_ dl_ dm_
theorem block_at {w : World} {k : Nat} {o : Obj} (h : w.heap.size = k) : (w.alloc o).heap[k]? = some o := by subst h; exact heap_alloc_new w o
theorem rw_ (B : IB) (x y : Int) : (modC B x y)[(16 : Nat)]? = some (.int .i64 0) := lm_ B x y 16 _ (by unfold aa_; rfl)
structure PN where
 p : Nat
 s : Nat
 b : Nat
 l : Nat
 st : Nat
 mo : Nat
 th : Nat
 at_ : Nat
 gm : Nat
 cm : Nat
 gq : Nat
 cq : Nat
 gt : Nat
 ct : Nat
 gc : Nat
 cc : Nat
 g : Nat
 cap : Nat
 b1 : Nat
 b3 : Nat
structure ProcAt (B : IB) (w : World) (n : PN) : Prop where
 head : w.heap[n.p]? = some (.cells (es_ n.s n.b n.l (.slice (some ⟨n.gt, 0, none⟩) 1 n.ct)).toArray 117 (0, 0))
 load : w.heap[n.l]? = some (.cells (bj_ n.s n.b n.st (.slice (some ⟨n.gm, 0, none⟩) 1 n.cm) (.slice (some ⟨n.gq, 0, none⟩) 1 n.cq)).toArray 167 (0, 0))
 mods : w.ownsRow 0 127 32 (.slice (some ⟨n.gm, 0, none⟩) 1 n.cm) 1 (modC B 512 1)
 order : w.ownsRow 0 3 1 (.slice (some ⟨n.gq, 0, none⟩) 1 n.cq) 1 [.int .i64 0]
 blocks : w.heap[n.b]? = some (.cells (cv_ n.s n.mo n.th n.at_).toArray 164 (0, 0))
 known : w.heap[n.mo]? = some (.map #[⟨.int .i64 0, .agg (aa_ B), 0⟩] 1)
 thrs : w.heap[n.th]? = some (.map #[⟨.int .i64 0, .bool true, 0⟩] 1)
 ats : w.heap[n.at_]? = some (.map #[] 0)
 depths : a5_ w B.gd
 store : w.heap[n.st]? = some (.map #[⟨.string labS, .agg (aa_ B), 0⟩] 1)
 thread : w.ownsRow 0 133 23 (.slice (some ⟨n.gt, 0, none⟩) 1 n.ct) 1 (dt_ 2048 (.slice (some ⟨n.gc, 0, none⟩) 1 n.cc))
 calls : w.ownsRow 0 3 1 (.slice (some ⟨n.gc, 0, none⟩) 1 n.cc) 1 [.int .i64 512]
end Two
namespace Two
open Go.RowKit Go.ChangeMaps
attribute [local go_sem] ak_ af_ aq_ be_ bf_ bg_ a6_ a7_ a8_ cb_ run_makeMap
attribute [local irreducible] aa_ modC
attribute [local go_sem] dy_ d4_ ds_ eb_ d5_ d6_ ec_ ed_ ee_ ef_ db_ dc_ dd_ de_ df_ dg_ c1_ c2_ c3_ dh_ di_ c4_ dj_ dk_ dl_ dm_
end Two
section
open Go.RowKit
theorem cw_ (b : Nat) (t : TypeId) (fr : Nat × Nat) : ∀ (vs l : List Value) (o : Nat) (w : World), o + vs.length ≤ l.length → w.heap[b]? = some (.cells l.toArray t fr) →
 (w.setCells b o vs).heap[b]? = some (.cells (l.take o ++ vs ++ l.drop (o + vs.length)).toArray t fr)
 | [], l, o, w, _, h => by simpa [World.setCells] using h
 | v :: r, l, o, w, hl, h => by
  simp only [List.length_cons] at hl
  have ih := cw_ b t fr r (l.set o v) (o + 1) (w.setCell ⟨b, o, none⟩ v) (by simp; omega) (aj_ h o v)
  rw [World.setCells, ih]
  congr 3
  rw [List.take_set, List.drop_set, if_pos (by omega), List.length_cons, show o + 1 + r.length = o + (r.length + 1) by omega]
  have : (l.take (o + 1)).set o v = l.take o ++ [v] := by
   have hlt : (l.take o).length = o := by rw [List.length_take]; omega
   rw [List.take_succ_eq_append_getElem (by omega), List.set_append_right _ _ (by omega), hlt, Nat.sub_self]
   rfl
  rw [this]
  simp
theorem Only.setCells {S : Nat → Prop} {w : World} (b : Nat) (hg : S b ∨ w.heap.size ≤ b) : ∀ (vs : List Value) (o : Nat) (w1 : World), Only S w w1 → Only S w (w1.setCells b o vs)
 | [], _, _, h => h
 | v :: r, o, w1, h => Only.setCells b hg r (o + 1) _ (h.setCell ⟨b, o, none⟩ v hg)
end
section
open Go.RowKit
attribute [local go_sem] ak_ af_
theorem row_cell {w : World} {base : Nat} {e : TypeId} {size g cap : Nat} {n : Nat} {xs : List Value} (h : w.ownsRow base e size (.slice (some ⟨g, 0, none⟩) n cap) n xs) (j : Nat) {u : Value} (hj : xs[j]? = some u) : w.cell? ⟨g, j, none⟩ = some u ∧ w.frozen? ⟨g, j, none⟩ = false := by
 have h1 := h.cells (g := g) rfl j u hj
 rw [hx_] at h1
 obtain ⟨_, _, cur, hcur⟩ := ah_ h
 exact ⟨h1, ag_ hcur j⟩
theorem Only.drewN {S : Nat → Prop} {w w1 : World} (h : Only S w w1) (n : Nat) : Only S w (w1.drewN n) := ⟨h.os, h.tape, h.output, h.size, h.block⟩
theorem SpaceAt.not_cells {w : World} {s : Nat} {pv : Value} {ps : List Part} (h : SpaceAt w s pv ps) {b : Nat} {l : Array Value} {t : TypeId} {f : Nat × Nat} (hb : w.heap[b]? = some (.cells l t f))
 (h1 : t ≠ 159) (h2 : t ≠ 302) (h3 : t ≠ 5) : ¬ e1_ s pv ps b := by
 rintro (k | k | ⟨p, hp, k⟩)
 · exact am_ hb h.head h1 k
 · obtain ⟨cur, hc⟩ := b5_ h.row _ k
   exact am_ hb hc h2 rfl
 · obtain ⟨_, _, cur, hc, _⟩ := h.bytes.2 p hp
   exact am_ hb hc h3 k.symm
theorem wpList_load_mid {P : Program} {ops : Array Oper} {rest : List Oper} {o : Oper} {a : Act} {w : World} {Q : Exit → Act → World → Prop} (hgd : o.guard = none) (ty : TypeId) (x : Operand) (ho : o.op = .load ty x)
 (b off : Nat) (hx : a.eval x = .pointer (some ⟨b, off, none⟩)) (cs : List Value) (d : TypeDesc) (hc : w.rangeAt b off cs)
 (hu : P.underlying ty = some d) (hd : d.isRow = true) (hi : (P.info? ty).map (·.size) = some cs.length)
 (h : wpList P ops Q rest (a.put o.dst (.agg cs.toArray)) w) : wpList P ops Q (o :: rest) a w := by
 refine wpList_plain hgd fun _ hK => ?_
 unfold Oper.wp
 simp [execOp, ho, hx, Instr.loadAt, Instr.sureAddr, run_loadVar_mid w b off ty cs d hc hu hd hi]
 exact hK _ _ h
theorem row_range {w : World} {base : Nat} {e : TypeId} {size g cap : Nat} {n : Nat} {xs : List Value} (h : w.ownsRow base e size (.slice (some ⟨g, 0, none⟩) n cap) n xs) : w.rangeAt g 0 xs := fun j v hv => by
 rw [Nat.zero_add]; exact (row_cell h j hv).1
theorem oz_ (s : Nat) (pv : Value) (ps : List Part) (a n : Int) (w : World) (hA : AreasOk ps) (hsp : SpaceAt w s pv ps)
 (k : Nat) (hk : LastAt ps a k) (hin : a - (ps[k]'hk.lt).at_ + n ≤ (ps[k]'hk.lt).size) (hn : 0 ≤ n) :
 Calls Tryz.prog 83 #[.pointer (some ⟨s, 0, none⟩), .int .i64 a, .int .i64 n] w fun e w' =>
  Below w.heap.size w w' ∧ e = .returned (.tuple #[.string ⟨(gj_ (ps[k]'hk.lt) a n).toArray⟩, .int .i64 0]) := by
 by_cases h : n = 0
 · subst h
   simpa [gj_] using s2_ s a w
 · obtain ⟨g, cap, rfl, _⟩ := hsp.parts (fun e => by have := hk.lt; rw [e] at this; simp at this)
   exact s1_ s g cap ps a n w hA hsp k hk _ rfl hin (by omega)
theorem block_at {w : World} {k : Nat} {o : Obj} (h : w.heap.size = k) : (w.alloc o).heap[k]? = some o := by subst h; exact heap_alloc_new w o
end
end Go.Proofs.YtacaejpamidkcaaGreatDoor
