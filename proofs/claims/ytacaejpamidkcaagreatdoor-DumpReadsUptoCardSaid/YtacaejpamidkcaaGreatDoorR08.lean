/- space: Areas. space: Write as the memory sees it; areas that stay right. space: access, Store of a word. Plain: the number in some bytes, the least first. No program in sight. word.Fits, word.field, isa.imm, isa.field. -/
import Derived.Test.YtacaejpamidkcaaGreatDoorR05
set_option linter.unusedVariables false
set_option linter.unusedSimpArgs false
set_option maxRecDepth 100000
set_option maxHeartbeats 2000000
namespace Go.Proofs.YtacaejpamidkcaaGreatDoor
section
open Go.RowKit
attribute [local go_sem] ak_ af_
def eu_ (ps : List Part) : List Value := ps.flatMap f0_
theorem jb_ (ps : List Part) (k : Nat) (h : k < ps.length) : eu_ (ps.take (k + 1)) = eu_ (ps.take k) ++ f0_ ps[k] := by
 unfold eu_
 rw [List.take_succ_eq_append_getElem h, List.flatMap_append]
 simp only [List.flatMap_cons, List.flatMap_nil, List.append_nil]
theorem jc_ : (Tryz.prog.info? 173).map (fun i => (i.zero, i.size, i.bytes)) = some (some (.agg #[.int .i64 0, .int .i64 0, .int .i64 0, .int .i64 0, .int .i64 0]), 5, 40) := by kernel_rfl
theorem s5_ (s g cap : Nat) (ps : List Part) (w : World) (hfew : ps.length ≤ 4096) (hsp : SpaceAt w s (.slice (some ⟨g, 0, none⟩) ps.length cap) ps) :
 Calls Tryz.prog 82 #[.pointer (some ⟨s, 0, none⟩)] w fun e w' =>
  Below w.heap.size w w' ∧ ∃ v, e = .returned v ∧ w'.ownsRow w.heap.size 173 5 v ps.length (eu_ ps) := by
 have hc := cell_of_one hsp.head
 have hls := lt_of_block hsp.head
 have hP : en_ w g ps := fun j u hj => by have := hsp.row.cells (g := g) rfl j u hj; simpa [fs_] using this
 have hg0 : g < w.heap.size := (hsp.row.lt g rfl).2
 obtain ⟨i0, hi, hz0, hz1, hz2⟩ := info_parts jc_
 have HP := h1_ hP
 have HI := h4_ hi hz0 hz1 hz2
 clear hsp hP hi hz0 hz1 hz2
 go_enter Tryz.func82, Tryz.ntmps82
 go_wp2
 go_loopw [3, 11] (fun v i wr => ∃ k : Nat, k ≤ ps.length ∧ i = .int .i64 k ∧ wr.ownsRow w.heap.size 173 5 v k (eu_ (ps.take k)) ∧ Below w.heap.size w wr) (fun _ i _ => ps.length - (RowKit.intOf i).toNat)
 case atStart => exact ⟨0, Nat.zero_le _, rfl, World.ownsRow_nil _ _ _ _, Below.refl _ _⟩
 case round =>
  obtain ⟨k, hk, rfl, hown, hb⟩ := hrel
  by_cases hlt : k < ps.length
  · obtain ⟨p, hp⟩ : ∃ p, p = ps[k] := ⟨_, rfl⟩
    obtain ⟨d0, d1, d2, d3, d4, d5⟩ := (HP.out.below hb hg0).six k hlt
    rw [← hp] at d0 d1 d2 d3 d4 d5
    unfold fi_ at d5
    have hwr := hb.size
    have HH := h3_ hp hown hb
    clear hp hown hb
    go_wp2_with (at_builtin; refine wpList_append_lies _ rfl _ _ _ rfl w.heap.size 173 i0 (.agg #[.int .i64 0, .int .i64 0, .int .i64 0, .int .i64 0, .int .i64 0]) 5 40 Tryz.underlying184 HI.out.1 HI.out.2.1 HI.out.2.2.1 HI.out.2.2.2 rfl (by omega) _ _ _ rfl ((HH.out.2.1.alloc _).alloc _) ⟨wr.heap.size + 1, 0, none⟩ 1 1 (f0_ p) rfl rfl ?c1 ?c2 (by omega) ?c3 ?c4 ?c5 (wr.heap.size + 2) (by simp) ?_)
    case c1 => exact World.news_of_block (cs := #[.int .i64 p.at_, .int .i64 p.size, .int .i64 p.kind, .int .i64 p.owner, .int .i64 p.mod]) (t := 173) (fr := (0, 0)) (heap_alloc2_new wr _ _)
    case c2 => simp [f0_, Value.oneCell']
    case c3 => unfold maxLen; omega
    case c4 => omega
    case c5 => simp; omega
    intro g1 cap1 w1 hown1 hgrow hat hlt1
    have HG := h4_ hown1 hgrow hat hlt1
    clear hown1 hgrow hat hlt1
    go_wp2
    go_roundw
    case rel =>
     obtain ⟨hown1, hgrow, hat, hlt1⟩ := HG.out
     obtain ⟨hp, hown, hb⟩ := HH.out
     refine ⟨k + 1, by omega, by go_num, ?_, ?_⟩
     · rw [jb_ ps k hlt, ← hp]
       exact hown1
     · have := hb.alloc (by omega) (Obj.cells #[.int .i64 p.at_, .int .i64 p.size, .int .i64 p.kind, .int .i64 p.owner, .int .i64 p.mod, .slice (some ⟨p.blk, 0, none⟩) p.size.toNat p.cap] 302)
       have := this.alloc (by simp; omega) (Obj.cells #[.int .i64 p.at_, .int .i64 p.size, .int .i64 p.kind, .int .i64 p.owner, .int .i64 p.mod] 173)
       exact this.grown hgrow (by simp; omega) (fun b hb' => (hown.lt b hb').1)
    case measure => simp [RowKit.intOf]; omega
  · obtain rfl : k = ps.length := by omega
    rw [List.take_length] at hown
    have HH := h2_ hown hb
    clear hown hb
    go_wp2
    go_ret
    exact ⟨HH.out.2, _, rfl, HH.out.1⟩
end
section
open Go.RowKit
attribute [local go_sem] ak_ af_
theorem SpaceAt.apart {w : World} {s : Nat} {pv : Value} {ps : List Part} (h : SpaceAt w s pv ps) {p : Part} (hp : p ∈ ps) : s ≠ p.blk ∧ pv.ownBlock ≠ some p.blk := by
 obtain ⟨h1, h2, cur, h3, h4, h5⟩ := h.bytes.2 p hp
 refine ⟨fun e => ?_, fun e => ?_⟩
 · rw [← e, h.head] at h3
   simp at h3
 · obtain ⟨cur', hc⟩ := b5_ h.row _ e
   rw [h3] at hc
   simp at hc
def e1_ (s : Nat) (pv : Value) (ps : List Part) : Nat → Prop := fun b => b = s ∨ pv.ownBlock = some b ∨ ∃ p ∈ ps, p.blk = b
theorem SpaceAt.kept {S : Nat → Prop} {w w' : World} {s : Nat} {pv : Value} {ps : List Part} (h : SpaceAt w s pv ps) (ho : Only S w w') (hd : ∀ b, e1_ s pv ps b → ¬ S b) : SpaceAt w' s pv ps := by
 refine ⟨ho.kept h.head (hd _ (.inl rfl)), ⟨h.row.1, ?_⟩, h.bytes.1, fun p hp => ?_⟩
 · rcases h.row.2 with h2 | ⟨g, cap, cur, rfl, h0, hgg, r⟩
   · exact .inl h2
   · exact .inr ⟨g, cap, cur, rfl, h0, ho.kept hgg (hd _ (.inr (.inl rfl))), r⟩
 · obtain ⟨h1, h2, cur, h3, h4, h5⟩ := h.bytes.2 p hp
   exact ⟨h1, h2, cur, ho.kept h3 (hd _ (.inr (.inr ⟨p, hp, rfl⟩))), h4, h5⟩
theorem SpaceAt.lt {w : World} {s : Nat} {pv : Value} {ps : List Part} (h : SpaceAt w s pv ps) : ∀ b, e1_ s pv ps b → b < w.heap.size := by
 rintro b (rfl | hb | ⟨p, hp, rfl⟩)
 · exact lt_of_block h.head
 · exact (h.row.lt b hb).2
 · obtain ⟨_, _, cur, h3, _⟩ := h.bytes.2 p hp
   exact lt_of_block h3
theorem AreasOk.put {ps : List Part} (h : AreasOk ps) (k : Nat) (hk : k < ps.length) (a : Int) (x : List UInt8) : AreasOk (ps.set k (ps[k].put a x)) := by
 have hg : ∀ i (hi : i < (ps.set k (ps[k].put a x)).length), ((ps.set k (ps[k].put a x))[i]).at_ = (ps[i]'(by simpa using hi)).at_ ∧ ((ps.set k (ps[k].put a x))[i]).size = (ps[i]'(by simpa using hi)).size := by
  intro i hi
  rw [List.getElem_set]
  split
  · rename_i e; subst e; exact ⟨rfl, rfl⟩
  · exact ⟨rfl, rfl⟩
 refine ⟨fun p hp => ?_, fun i j hi hj hij => ?_, by simpa using h.few⟩
 · obtain ⟨i, hi, rfl⟩ := List.getElem_of_mem hp
   rw [(hg i hi).1, (hg i hi).2]
   exact h.each _ (List.getElem_mem _)
 · rw [(hg i hi).1, (hg i hi).2, (hg j hj).1]
   exact h.apart i j _ _ hij
theorem AreasOk.snoc {ps : List Part} (h : AreasOk ps) {q : Part} (hq : 256 ≤ q.at_ ∧ q.at_ % 256 = 0 ∧ 1 ≤ q.size ∧ q.size ≤ 1048576 ∧ q.at_ + q.size ≤ 1099511627776)
 (hend : ∀ p ∈ ps, p.at_ + p.size ≤ q.at_) (hf : ps.length < 4096) : AreasOk (ps ++ [q]) := by
 refine ⟨fun p hp => ?_, fun i j hi hj hij => ?_, by simp; omega⟩
 · rcases List.mem_append.1 hp with hp | hp
   · exact h.each p hp
   · simp at hp; subst hp; exact hq
 · simp at hi hj
   have hi' : i < ps.length := by omega
   rw [List.getElem_append_left hi']
   by_cases hj' : j < ps.length
   · rw [List.getElem_append_left hj']
     exact h.apart i j hi' hj' hij
   · rw [List.getElem_append_right (by omega)]
     simp
     exact hend _ (List.getElem_mem _)
theorem wc_ (s : Nat) (pv : Value) (ps : List Part) (a : Int) (x : List UInt8) (w : World) (hA : AreasOk ps) (hsp : SpaceAt w s pv ps)
 (k : Nat) (hk : LastAt ps a k) (hin : a - (ps[k]'hk.lt).at_ + x.length ≤ (ps[k]'hk.lt).size) :
 Calls Tryz.prog 173 #[.pointer (some ⟨s, 0, none⟩), .int .i64 a, .string ⟨x.toArray⟩] w fun e w' =>
  e = .returned (.int .i64 0) ∧ Only (· = (ps[k]'hk.lt).blk) w w' ∧ SpaceAt w' s pv (ps.set k ((ps[k]'hk.lt).put a x)) := by
 have hkl := hk.lt
 have hk1 := hk.le
 obtain ⟨h1, h2⟩ := hsp.apart (List.getElem_mem hkl)
 obtain ⟨b1, b2, cur, b3, b4, b5⟩ := hsp.bytes.2 _ (List.getElem_mem hkl)
 by_cases hx : x = []
 · subst hx
   refine (ks_ s a w).mono ?_
   rintro e w' ⟨rfl, rfl⟩
   refine ⟨rfl, Only.refl _ _, ?_⟩
   have : ps[k].put a [] = ps[k] := by simp [Part.put, putL]
   rw [this, List.set_getElem_self]
   exact hsp
 · obtain ⟨g, cap, rfl, _⟩ := hsp.parts (fun e => by rw [e] at hkl; simp at hkl)
   refine (rd_ s g cap ps a x w hA hsp k hk _ rfl hin hx).mono ?_
   rintro e w' ⟨rfl, ho, cur, hc, hc'⟩
   exact ⟨rfl, ho, hsp.put hkl ho h1 h2 (by omega) ⟨cur, hc, hc'⟩⟩
end
section
open Go.RowKit
attribute [local go_sem] ak_ af_
theorem oq_ (s g cap : Nat) (ps : List Part) (a : Int) (w : World) (hA : AreasOk ps) (hsp : SpaceAt w s (.slice (some ⟨g, 0, none⟩) ps.length cap) ps)
 (k : Nat) (hk : LastAt ps a k) (p : Part) (hp : p = ps[k]'hk.lt) (hin : a - p.at_ + 8 ≤ p.size) (hm : a.tmod 8 = 0) :
 Calls Tryz.prog 288 #[.pointer (some ⟨s, 0, none⟩), .int .i64 a, .int .i64 8] w fun e w' =>
  Below w.heap.size w w' ∧ e = .returned (.tuple #[i9_ p, .int .i64 (a - p.at_), .int .i64 0]) := by
 have hls := lt_of_block hsp.head
 have hk1 := hk.le
 rw [← hp] at hk1
 have hmem : p ∈ ps := by rw [hp]; exact List.getElem_mem hk.lt
 obtain ⟨e1, e2, e3, e4, e5⟩ := hA.each p hmem
 have hh : hasB p a 8 = true := by simp [hasB]; omega
 have HF := h1_ fun o => he_ s g cap ps a 8 (w.alloc o) hA (hsp.below ((Below.refl _ _).alloc (Nat.le_refl _) _)) k hk (by omega)
 rw [← hp, hh] at HF
 clear hA hsp hk hp hmem e2 hh
 unfold i9_ fi_ at HF
 unfold i9_ fi_
 go_enter Tryz.func288, Tryz.ntmps288
 go_wp2_with (go_at_call 178; refine (HF.out _).mono ?_; rintro e w1 ⟨hb1, rfl⟩; have hsz1 := eo_ hb1; have hn1 := b9_ hb1; have HN1 := h1_ hn1; clear hn1)
 refine ac_ fun W hW => ?_
 have hn2 := ae_ (o' := .cells #[.int .i64 p.at_, .int .i64 p.size, .int .i64 p.kind, .int .i64 p.owner, .int .i64 p.mod, .slice (some ⟨p.blk, 0, none⟩) p.size.toNat p.cap] 302) HN1.out
 have hn3 := heap_alloc_new w1 (.cells #[.int .i64 p.at_, .int .i64 p.size, .int .i64 p.kind, .int .i64 p.owner, .int .i64 p.mod, .slice (some ⟨p.blk, 0, none⟩) p.size.toNat p.cap] 302)
 rw [hW] at hn2 hn3
 (have c0 := ab_ hn2 0 rfl; have f0 := ag_ hn2 0; have c1 := ab_ hn2 1 rfl; have f1 := ag_ hn2 1; have c2 := ab_ hn2 2 rfl; have f2 := ag_ hn2 2; have c3 := ab_ hn2 3 rfl; have f3 := ag_ hn2 3; have c4 := ab_ hn2 4 rfl; have f4 := ag_ hn2 4; have c5 := ab_ hn2 5 rfl; have f5 := ag_ hn2 5)
 (have c0 := ab_ hn3 0 rfl; have f0 := ag_ hn3 0; have c1 := ab_ hn3 1 rfl; have f1 := ag_ hn3 1; have c2 := ab_ hn3 2 rfl; have f2 := ag_ hn3 2; have c3 := ab_ hn3 3 rfl; have f3 := ag_ hn3 3; have c4 := ab_ hn3 4 rfl; have f4 := ag_ hn3 4; have c5 := ab_ hn3 5 rfl; have f5 := ag_ hn3 5)
 go_region
 go_wp2
 have hn4 := az_ (aj_ (aj_ (aj_ (aj_ (aj_ (aj_ hn2 0 (.int .i64 p.at_)) 1 (.int .i64 p.size)) 2 (.int .i64 p.kind)) 3 (.int .i64 p.owner)) 4 (.int .i64 p.mod)) 5 (.slice (some ⟨p.blk, 0, none⟩) p.size.toNat p.cap))
 have hb0 := aw_ ((Below.refl _ _).alloc (Nat.le_refl _) _) hb1
 have hb : Below w.heap.size w W := by rw [← hW]; go_grown
 have hb4 : Below w.heap.size w (((((((W.setCell ⟨w.heap.size, 0, none⟩ (.int .i64 p.at_)).setCell ⟨w.heap.size, 1, none⟩ (.int .i64 p.size)).setCell ⟨w.heap.size, 2, none⟩ (.int .i64 p.kind)).setCell ⟨w.heap.size, 3, none⟩ (.int .i64 p.owner)).setCell ⟨w.heap.size, 4, none⟩ (.int .i64 p.mod)).setCell ⟨w.heap.size, 5, none⟩ (.slice (some ⟨p.blk, 0, none⟩) p.size.toNat p.cap))).drew := by
  go_grown
 refine ac_ fun W4 hW4 => ?_
 rw [hW4] at hn4 hb4
 refine bodyPost_ret (hw_ rfl _ _ _ _ _ _ _ rfl (by (repeat (first | assumption | exact heap_alloc_new _ _ | refine ae_ ?_ | refine az_ ?_ | apply setRow_heap | (refine (setRow_other _ _ _ _ ?_).trans ?_; omega)))) (Tryz.underlying302) rfl (by kernel_rfl)) rfl ?_
 exact ⟨hb4, rfl⟩
def ct_ (n : Int) : List UInt8 := (List.range 8).map fun i => UInt8.ofNat ((n / 2 ^ (8 * i)) % 256).toNat
theorem s6_ (n : Int) (k : Nat) (hk : k < 8) : (ct_ n)[k]? = some (UInt8.ofNat ((n / 2 ^ (8 * k)) % 256).toNat) := by
 simp [ct_, hk]
theorem s7_ (n : Int) (k : Nat) : ((UInt8.ofNat ((n / 2 ^ (8 * k)) % 256).toNat).toNat : Int) = n / 2 ^ (8 * k) % 256 := by
 have h1 := Int.emod_nonneg (n / 2 ^ (8 * k)) (show (256 : Int) ≠ 0 by decide)
 have h2 := Int.emod_lt_of_pos (n / 2 ^ (8 * k)) (show (0 : Int) < 256 by decide)
 simp [UInt8.toNat_ofNat']
 omega
theorem wordSet (cur : List Value) (o k : Nat) (n : Int) (hk : k < 8) (hfit : o + 8 ≤ cur.length) :
 ((cur.take o ++ byteCells ((ct_ n).take k) ++ cur.drop (o + k)).set (o + k) (.int .u8 (n / 2 ^ (8 * k) % 256))).toArray =
   (cur.take o ++ byteCells ((ct_ n).take (k + 1)) ++ cur.drop (o + (k + 1))).toArray := by
 congr 1
 have hl : (ct_ n).length = 8 := by simp [ct_]
 have h1 : (cur.take o ++ byteCells ((ct_ n).take k)).length = o + k := by simp [bo_, hl]; omega
 rw [List.set_append_right _ _ (by omega), h1, Nat.sub_self]
 have h2 : cur.drop (o + k) = cur[o + k]'(by omega) :: cur.drop (o + k + 1) := List.drop_eq_getElem_cons (by omega)
 rw [h2, List.set_cons_zero]
 have h3 : (ct_ n).take (k + 1) = (ct_ n).take k ++ [UInt8.ofNat ((n / 2 ^ (8 * k)) % 256).toNat] := by
  rw [List.take_add_one, s6_ n k hk]; rfl
 rw [h3, e4_]
 have h4 : byteCells [UInt8.ofNat ((n / 2 ^ (8 * k)) % 256).toNat] = [.int .u8 (n / 2 ^ (8 * k) % 256)] := by
  simp only [byteCells, List.map_cons, List.map_nil]
  rw [s7_]
 rw [h4]
 simp [Nat.add_assoc]
theorem kw_ (s g cap : Nat) (ps : List Part) (a n : Int) (w : World) (hA : AreasOk ps) (hsp : SpaceAt w s (.slice (some ⟨g, 0, none⟩) ps.length cap) ps)
 (k : Nat) (hk : LastAt ps a k) (p : Part) (hp : p = ps[k]'hk.lt) (hin : a - p.at_ + 8 ≤ p.size) (hm : a.tmod 8 = 0) (hkind : p.kind ≠ 0) :
 Calls Tryz.prog 169 #[.pointer (some ⟨s, 0, none⟩), .int .i64 a, .int .i64 8, .int .i64 n] w fun e w' =>
  e = .returned (.int .i64 0) ∧ Only (· = p.blk) w w' ∧ SpaceAt w' s (.slice (some ⟨g, 0, none⟩) ps.length cap) (ps.set k (p.put a (ct_ n))) := by
 have hls := lt_of_block hsp.head
 have hk1 := hk.le
 rw [← hp] at hk1
 have hmem : p ∈ ps := by rw [hp]; exact List.getElem_mem hk.lt
 obtain ⟨e1, e2, e3, e4, e5⟩ := hA.each p hmem
 have hkk : (p.kind == 0) = false := by simpa using hkind
 have HF := h1_ (oq_ s g cap ps a w hA hsp k hk p hp hin hm)
 have HS := h2_ hsp hp
 unfold i9_ fi_ at HF
 clear hA hsp hp hmem e2 hm
 go_enter Tryz.func169, Tryz.ntmps169
 go_wp2_with (go_at_call 288; refine HF.out.mono ?_; rintro e w1 ⟨hb1, rfl⟩; have hsz1 := hb1.size)
 have hW2 := heap_alloc_new w1 (.cells #[.int .i64 p.at_, .int .i64 p.size, .int .i64 p.kind, .int .i64 p.owner, .int .i64 p.mod, .slice (some ⟨p.blk, 0, none⟩) p.size.toNat p.cap] 302)
 obtain ⟨b1, b2, cur, b3, b4, b5⟩ := HS.out.1.bytes.2 p (by rw [HS.out.2]; exact List.getElem_mem _)
 have hbl := lt_of_block b3
 have hfit : (a - p.at_).toNat + 8 ≤ cur.size := by omega
 have HB := h4_ b3 b5 hb1 hW2
 clear b3 b5 hb1 hW2 b4
 go_loopw [29] (fun i wr => ∃ k : Nat, k ≤ 8 ∧ i = .int .i64 k ∧ Only (· = p.blk) w wr ∧ wr.heap[w1.heap.size]? = some (.cells #[.int .i64 p.at_, .int .i64 p.size, .int .i64 p.kind, .int .i64 p.owner, .int .i64 p.mod, .slice (some ⟨p.blk, 0, none⟩) p.size.toNat p.cap] 302 (0, 0)) ∧
  wr.heap[p.blk]? = some (.cells (cur.toList.take (a - p.at_).toNat ++ byteCells ((ct_ n).take k) ++ cur.toList.drop ((a - p.at_).toNat + k)).toArray 5 (0, 0))) (fun i _ => 8 - (RowKit.intOf i).toNat)
 case atStart =>
  refine ⟨0, by omega, rfl, (Only.of_below HB.out.2.2.1).alloc _, HB.out.2.2.2, ?_⟩
  have := HB.out.1
  simp [byteCells]
  exact ae_ ((HB.out.2.2.1.block _ hbl).trans this)
 case round =>
  obtain ⟨k, hk8, rfl, ho, hbx, hblk⟩ := hrel
  by_cases hlt : k < 8
  · (have c0 := ab_ hbx 0 rfl; have f0 := ag_ hbx 0; have c1 := ab_ hbx 1 rfl; have f1 := ag_ hbx 1; have c2 := ab_ hbx 2 rfl; have f2 := ag_ hbx 2; have c3 := ab_ hbx 3 rfl; have f3 := ag_ hbx 3; have c4 := ab_ hbx 4 rfl; have f4 := ag_ hbx 4; have c5 := ab_ hbx 5 rfl; have f5 := ag_ hbx 5)
    have hlen : (cur.toList.take (a - p.at_).toNat ++ byteCells ((ct_ n).take k) ++ cur.toList.drop ((a - p.at_).toNat + k)).length = cur.size := by simp [bo_, ct_]; omega
    obtain ⟨vv, hv⟩ : ∃ v, (cur.toList.take (a - p.at_).toNat ++ byteCells ((ct_ n).take k) ++ cur.toList.drop ((a - p.at_).toNat + k))[(a - p.at_).toNat + k]? = some v := ⟨_, List.getElem?_eq_getElem (by omega)⟩
    have g0 := ab_ hblk _ hv
    have gf := ag_ hblk ((a - p.at_).toNat + k)
    have hofs : (a - p.at_ + (k : Int)).toNat = (a - p.at_).toNat + k := by omega
    rw [← hofs] at g0 gf
    have HOF := h1_ hofs
    clear hofs
    have hlb := lt_of_block hbx
    have HH := h5_ ho hbx hblk hlen hv
    clear ho hbx hblk hlen hv
    go_wp2
    go_region
    go_wp2
    go_roundw
    case rel =>
     obtain ⟨ho, hbx, hblk, hlen, hv⟩ := HH.out
     have hofs := HOF.out
     have hne : w1.heap.size ≠ p.blk := by omega
     refine ⟨k + 1, by omega, by go_num, ?_, ?_, ?_⟩
     · exact (ho.setCell _ _ (.inl rfl)).drew
     · exact az_ (ay_ hbx _ _ hne)
     · rw [hofs]
       refine (az_ (aj_ hblk ((a - p.at_).toNat + k) _)).trans ?_
       congr 2
       exact wordSet cur.toList _ k n hlt (by simpa using hfit)
    case measure => simp [RowKit.intOf]; omega
  · obtain rfl : k = 8 := by omega
    have HH := h2_ ho hblk
    clear ho hbx hblk
    go_wp2
    go_ret
    obtain ⟨ho, hblk⟩ := HH.out
    obtain ⟨hsp, hp⟩ := HS.out
    subst hp
    obtain ⟨h1, h2⟩ := hsp.apart (List.getElem_mem hk.lt)
    refine ⟨rfl, ho, hsp.put hk.lt ho h1 h2 ?_ ⟨cur, HB.out.1, ?_⟩⟩
    · simp [ct_]; omega
    · have hl : (ct_ n).length = 8 := by simp [ct_]
      have ht : (ct_ n).take 8 = ct_ n := by rw [← hl]; exact List.take_length
      rw [ht] at hblk
      rw [hl]
      exact hblk
end
section
open Go Go.RowKit
def leN : List UInt8 → Nat
 | [] => 0
 | b :: r => b.toNat + 256 * leN r
theorem wd_ (l : List UInt8) (b : UInt8) : leN (l ++ [b]) = leN l + b.toNat * 256 ^ l.length := by
 induction l with
 | nil => simp [leN]
 | cons x l ih =>
  simp only [List.cons_append, leN, List.length_cons, Nat.pow_succ]
  rw [ih, Nat.mul_add, Nat.add_assoc, ← Nat.mul_assoc, Nat.mul_comm 256 b.toNat, Nat.mul_assoc, Nat.mul_comm 256 (256 ^ l.length)]
theorem s8_ (l : List UInt8) : leN l < 256 ^ l.length := by
 induction l with
 | nil => simp [leN]
 | cons x l ih =>
  have := x.toNat_lt
  simp only [leN, List.length_cons, Nat.pow_succ]
  omega
theorem or_join (n b k : Nat) (hk : k < 8) (hn : n < 256 ^ k) (hb : b < 256) : n ||| (b * 256 ^ k) = n + b * 256 ^ k := by
 rw [Nat.or_comm, Nat.add_comm]
 have e : 256 ^ k = 2 ^ (8 * k) := by rw [Nat.pow_mul]
 rw [e] at hn ⊢
 exact nat_join (8 * k) (b * 2 ^ (8 * k)) n (Nat.mul_mod_left _ _) hn
theorem p6_ (l : List UInt8) (k : Nat) (h : k < l.length) : leN (l.take (k + 1)) = leN (l.take k) + (l[k]).toNat * 256 ^ k := by
 rw [List.take_succ_eq_append_getElem h, wd_, List.length_take, Nat.min_eq_left (by omega)]
theorem jd_ (l : List UInt8) (k : Nat) (h : k ≤ l.length) : leN (l.take k) < 256 ^ k := by
 have := s8_ (l.take k)
 rwa [List.length_take, Nat.min_eq_left h] at this
def lowL (n : Int) (k : Nat) : List UInt8 := (List.range k).map fun i => UInt8.ofNat ((n / 2 ^ (8 * i)) % 256).toNat
theorem li_ (m : Int) : ((UInt8.ofNat (m % 256).toNat).toNat : Int) = m % 256 := by
 have h1 := Int.emod_nonneg m (show (256 : Int) ≠ 0 by decide)
 have h2 := Int.emod_lt_of_pos m (show (0 : Int) < 256 by decide)
 simp [UInt8.toNat_ofNat']
 omega
theorem we_ (n : Int) : (leN (lowL n 4) : Int) = n % 4294967296 := by
 have e : lowL n 4 = [UInt8.ofNat ((n / 2 ^ (8 * 0)) % 256).toNat, UInt8.ofNat ((n / 2 ^ (8 * 1)) % 256).toNat, UInt8.ofNat ((n / 2 ^ (8 * 2)) % 256).toNat, UInt8.ofNat ((n / 2 ^ (8 * 3)) % 256).toNat] := rfl
 rw [e]
 simp only [leN]
 have h0 := li_ (n / 2 ^ (8 * 0))
 have h1 := li_ (n / 2 ^ (8 * 1))
 have h2 := li_ (n / 2 ^ (8 * 2))
 have h3 := li_ (n / 2 ^ (8 * 3))
 generalize UInt8.ofNat ((n / 2 ^ (8 * 0)) % 256).toNat = b0 at *
 generalize UInt8.ofNat ((n / 2 ^ (8 * 1)) % 256).toNat = b1 at *
 generalize UInt8.ofNat ((n / 2 ^ (8 * 2)) % 256).toNat = b2 at *
 generalize UInt8.ofNat ((n / 2 ^ (8 * 3)) % 256).toNat = b3 at *
 simp at h0 h1 h2 h3
 omega
def or_ (n : Int) : Int := if n % 4294967296 < 2147483648 then n % 4294967296 else n % 4294967296 - 4294967296
theorem s9_ (n : Int) (h1 : -2147483648 ≤ n) (h2 : n ≤ 2147483647) : or_ (leN (lowL n 4)) = n := by
 rw [we_]; unfold or_; split <;> omega
def lj_ (n : Int) : Int := if n % 18446744073709551616 < 9223372036854775808 then n % 18446744073709551616 else n % 18446744073709551616 - 18446744073709551616
end
section
open Go.RowKit
attribute [local go_sem] ak_ af_
theorem fits_s (n : Int) (w : World) (h1 : -2147483648 ≤ n) (h2 : n ≤ 2147483647) :
 Calls Tryz.prog 101 #[.int .i64 n, .int .i64 32, .bool true] w fun e w' => e = .returned (.bool true) ∧ Below w.heap.size w w' := by
 by_cases h : n < 0
 · have hs : n / 2147483648 = -1 := by omega
   go_enter Tryz.func101, Tryz.ntmps101
   go_wp2
   go_ret
   exact ⟨by simp, Below.refl _ _⟩
 · have hs : n / 2147483648 = 0 := by omega
   go_enter Tryz.func101, Tryz.ntmps101
   go_wp2
   go_ret
   exact ⟨by simp, Below.refl _ _⟩
theorem fits_u (n : Int) (w : World) (h1 : -2147483648 ≤ n) (h2 : n ≤ 2147483647) :
 Calls Tryz.prog 101 #[.int .i64 n, .int .i64 32, .bool false] w fun e w' => e = .returned (.bool (decide (0 ≤ n))) ∧ Below w.heap.size w w' := by
 by_cases h : n < 0
 · have h' : ¬ 0 ≤ n := by omega
   go_enter Tryz.func101, Tryz.ntmps101
   go_wp2
   go_ret
   exact ⟨by simp [h'], Below.refl _ _⟩
 · have hs : n / 4294967296 = 0 := by omega
   have h' : 0 ≤ n := by omega
   go_enter Tryz.func101, Tryz.ntmps101
   go_wp2
   go_ret
   exact ⟨by simp [h'], Below.refl _ _⟩
theorem hf_ (s : ByteArray) (at_ size : Int) (w : World) (hs : size = 1 ∨ size = 2 ∨ size = 4 ∨ size = 8) (h0 : 0 ≤ at_) (h : at_ ≤ s.size - size) (hl : s.size ≤ 1000000) :
 Calls Tryz.prog 100 #[.string s, .int .i64 at_, .int .i64 size] w fun e w' => e = .returned (.bool true) ∧ Below w.heap.size w w' := by
 rcases hs with rfl | rfl | rfl | rfl
 all_goals
  go_enter Tryz.func100, Tryz.ntmps100
  go_wp2
  go_ret
  exact ⟨by simp, Below.refl _ _⟩
def insV (op a b c imm : Int) : Value := .agg #[.int .i64 op, .int .i64 a, .int .i64 b, .int .i64 c, .int .i64 imm]
theorem bs_ (g : Nat) (k : Nat) (hk : k < 4) (w : World) :
 Calls Tryz.prog 98 #[.pointer (some ⟨g, 0, none⟩), .int .u8 (([65, 66, 67, 73] : List Int)[k])] w fun e w' => e = .returned (.pointer (some ⟨g, k + 1, none⟩)) ∧ w = w' := by
 obtain rfl | rfl | rfl | rfl : k = 0 ∨ k = 1 ∨ k = 2 ∨ k = 3 := by omega
 all_goals
  go_enter Tryz.func98, Tryz.ntmps98
  go_wp2
  go_ret
  exact ⟨rfl, rfl⟩
end
end Go.Proofs.YtacaejpamidkcaaGreatDoor
