/- space: Read, Area. space: Write. space: right, Insert at the end, Map behind all others, New. space: Map behind all others. -/
import Derived.Test.YtacaejpamidkcaaGreatDoorR04
import Derived.Lib.BufferWrite
set_option linter.unusedVariables false
set_option linter.unusedSimpArgs false
set_option maxRecDepth 100000
set_option maxHeartbeats 1000000
namespace Go.Proofs.YtacaejpamidkcaaGreatDoor
section
open Go.RowKit
attribute [local go_sem] ak_ af_
theorem s0_ (g o j : Nat) : (⟨g, o, none⟩ : Addr).add j = ⟨g, o + j, none⟩ := by unfold Addr.add; split <;> simp_all
def gj_ (p : Part) (a n : Int) : List UInt8 := (p.data.drop (a - p.at_).toNat).take n.toNat
theorem s1_ (s g cap : Nat) (ps : List Part) (a n : Int) (w : World) (hA : AreasOk ps) (hsp : SpaceAt w s (.slice (some ⟨g, 0, none⟩) ps.length cap) ps)
 (k : Nat) (hk : LastAt ps a k) (p : Part) (hp : p = ps[k]'hk.lt) (hin : a - p.at_ + n ≤ p.size) (hn : 0 < n) :
 Calls Tryz.prog 83 #[.pointer (some ⟨s, 0, none⟩), .int .i64 a, .int .i64 n] w fun e w' =>
  Below w.heap.size w w' ∧ e = .returned (.tuple #[.string ⟨(gj_ p a n).toArray⟩, .int .i64 0]) := by
 have hls := lt_of_block hsp.head
 have hk1 := hk.le
 rw [← hp] at hk1
 have hmem : p ∈ ps := by rw [hp]; exact List.getElem_mem hk.lt
 obtain ⟨e1, e2, e3, e4, e5⟩ := hA.each p hmem
 obtain ⟨b1, b2, cur, b3, b4, b5⟩ := hsp.bytes.2 p hmem
 have hbl := lt_of_block b3
 have hh : hasB p a n = true := by simp [hasB]; omega
 have HF := h1_ (he_ s g cap ps a n w hA hsp k hk (by omega))
 rw [← hp, hh] at HF
 have HB := h3_ b3 b4 b5
 clear b3 b4 b5 hA hsp hk hp hmem e2 hh
 unfold i9_ fi_ at HF
 go_enter Tryz.func83, Tryz.ntmps83
 go_wp2_with (go_at_call 178; refine HF.out.mono ?_; rintro e w1 ⟨hb1, rfl⟩; have hsz1 := hb1.size)
 have hlen : (gj_ p a n).length = n.toNat := by simp [gj_]; omega
 have hl2 : (a - p.at_ + n).toNat - (a - p.at_).toNat = (gj_ p a n).length := by omega
 obtain ⟨b3, b4, b5⟩ := HB.out
 rw [hl2, run_convert_bytes_back _ 75 9 5 ⟨p.blk, (a - p.at_).toNat, none⟩ _ (gj_ p a n) Tryz.underlying75 Tryz.underlying5 Tryz.underlying9 ?hc]
 case hc =>
  intro j hj
  rw [hlen] at hj
  have hj2 : (a - p.at_).toNat + j < p.data.length := by omega
  have h1 : (byteCells p.data)[(a - p.at_).toNat + j]? = some (.int .u8 (p.data[(a - p.at_).toNat + j].toNat : Int)) := by simp [byteCells, List.getElem?_eq_getElem hj2]
  rw [← b5, List.getElem?_take_of_lt hj2] at h1
  have h2 : w.cell? ⟨p.blk, (a - p.at_).toNat + j, none⟩ = some (.int .u8 (p.data[(a - p.at_).toNat + j].toNat : Int)) := al_ b3 _ (by simpa using h1)
  rw [s0_]
  refine (Below.cell (B := w.heap.size) ((hb1.alloc hsz1 _)) (p := ⟨p.blk, _, none⟩) hbl).trans (h2.trans ?_)
  simp [gj_]
 clear b3 b4 b5
 go_wp2
 go_ret2
 exact ⟨hb1.alloc hsz1 _, rfl⟩
theorem s2_ (s : Nat) (a : Int) (w : World) :
 Calls Tryz.prog 83 #[.pointer (some ⟨s, 0, none⟩), .int .i64 a, .int .i64 0] w fun e w' =>
  Below w.heap.size w w' ∧ e = .returned (.tuple #[.string ⟨#[]⟩, .int .i64 0]) := by
 go_enter Tryz.func83, Tryz.ntmps83
 go_wp2
 go_ret2
 exact ⟨Below.refl _ _, rfl⟩
def areaV (p : Part) : Value := .agg #[.int .i64 p.at_, .int .i64 p.size, .int .i64 p.kind, .int .i64 p.owner, .int .i64 p.mod]
theorem s3_ (s g cap : Nat) (ps : List Part) (a : Int) (w : World) (hA : AreasOk ps) (hsp : SpaceAt w s (.slice (some ⟨g, 0, none⟩) ps.length cap) ps)
 (k : Nat) (hk : LastAt ps a k) (p : Part) (hp : p = ps[k]'hk.lt) (hin : a - p.at_ + 1 ≤ p.size) :
 Calls Tryz.prog 246 #[.pointer (some ⟨s, 0, none⟩), .int .i64 a] w fun e w' =>
  Below w.heap.size w w' ∧ e = .returned (.tuple #[areaV p, .bool true]) := by
 have hls := lt_of_block hsp.head
 have hk1 := hk.le
 rw [← hp] at hk1
 have hmem : p ∈ ps := by rw [hp]; exact List.getElem_mem hk.lt
 obtain ⟨e1, e2, e3, e4, e5⟩ := hA.each p hmem
 have hh : hasB p a 1 = true := by simp [hasB]; omega
 have HF := h1_ fun o => he_ s g cap ps a 1 (w.alloc o) hA (hsp.below ((Below.refl _ _).alloc (Nat.le_refl _) _)) k hk (by omega)
 rw [← hp, hh] at HF
 clear hA hsp hk hp hmem e2 hh
 unfold i9_ fi_ at HF
 unfold areaV
 go_enter Tryz.func246, Tryz.ntmps246
 go_wp2_with (first | ((with_reducible refine ad_ ?_); refine sr_ rfl rfl (h := ?_); (try simp only [World.setRow_alloc_new])) | (go_at_call 178; refine (HF.out _).mono ?_; rintro e w1 ⟨hb1, rfl⟩; have hsz1 := eo_ hb1; have hn1 := b9_ hb1))
 refine bodyPost_ret (a3_ rfl _ _ _ _ _ _ _ rfl (by (repeat (first | assumption | exact heap_alloc_new _ _ | refine ae_ ?_ | refine az_ ?_ | apply setRow_heap | (refine (setRow_other _ _ _ _ ?_).trans ?_; omega)))) (Tryz.underlying173) rfl (by kernel_rfl)) rfl ?_
 have hb0 := aw_ ((Below.refl _ _).alloc (Nat.le_refl _) _) hb1
 exact ⟨below_setRow (hb0.alloc (by omega) _) (Nat.le_refl _) _, rfl⟩
end
section
open Go.RowKit
attribute [local go_sem] ak_ af_
def putL (l : List UInt8) (o : Nat) (x : List UInt8) : List UInt8 := l.take o ++ x ++ l.drop (o + x.length)
theorem gb_ (l : List UInt8) (o : Nat) (x : List UInt8) (h : o + x.length ≤ l.length) : (putL l o x).length = l.length := by simp [putL]; omega
def Part.put (p : Part) (a : Int) (x : List UInt8) : Part := { p with data := putL p.data (a - p.at_).toNat x }
theorem rd_ (s g cap : Nat) (ps : List Part) (a : Int) (x : List UInt8) (w : World) (hA : AreasOk ps) (hsp : SpaceAt w s (.slice (some ⟨g, 0, none⟩) ps.length cap) ps)
 (k : Nat) (hk : LastAt ps a k) (p : Part) (hp : p = ps[k]'hk.lt) (hin : a - p.at_ + x.length ≤ p.size) (hn : x ≠ []) :
 Calls Tryz.prog 173 #[.pointer (some ⟨s, 0, none⟩), .int .i64 a, .string ⟨x.toArray⟩] w fun e w' =>
  e = .returned (.int .i64 0) ∧ Only (· = p.blk) w w' ∧ ∃ cur : Array Value, w.heap[p.blk]? = some (.cells cur 5 (0, 0)) ∧
   w'.heap[p.blk]? = some (.cells (cur.toList.take (a - p.at_).toNat ++ byteCells x ++ cur.toList.drop ((a - p.at_).toNat + x.length)).toArray 5 (0, 0)) := by
 have hls := lt_of_block hsp.head
 have hk1 := hk.le
 rw [← hp] at hk1
 have hmem : p ∈ ps := by rw [hp]; exact List.getElem_mem hk.lt
 obtain ⟨e1, e2, e3, e4, e5⟩ := hA.each p hmem
 obtain ⟨b1, b2, cur, b3, b4, b5⟩ := hsp.bytes.2 p hmem
 have hbl := lt_of_block b3
 have hx0 : 0 < x.length := List.length_pos_iff.2 hn
 have hh : hasB p a x.length = true := by simp [hasB]; omega
 have HF := h1_ (he_ s g cap ps a x.length w hA hsp k hk (by omega))
 rw [← hp, hh] at HF
 have hne : x.isEmpty = false := by simpa using hn
 have HB := h3_ b3 b4 b5
 clear b3 b4 b5 hA hsp hk hp hmem e2 hh
 unfold i9_ fi_ at HF
 go_enter Tryz.func173, Tryz.ntmps173
 go_wp2_with (first | ((with_reducible refine ad_ ?_); refine sr_ rfl rfl (h := ?_); (try simp only [World.setRow_alloc_new])) | (go_at_call 178; refine HF.out.mono ?_; rintro e w1 ⟨hb1, rfl⟩; have hsz1 := hb1.size))
 obtain ⟨b3, b4, b5⟩ := HB.out
 have hcl : x.length + (a - p.at_).toNat ≤ cur.size := by omega
 have hbW : (w1.alloc (.cells #[.int .i64 p.at_, .int .i64 p.size, .int .i64 p.kind, .int .i64 p.owner, .int .i64 p.mod, .slice (some ⟨p.blk, 0, none⟩) p.size.toNat p.cap] 302)).heap[p.blk]? = some (.cells cur 5 (0, 0)) :=
  ae_ ((hb1.block _ hbl).trans b3)
 have hsz : (⟨x.toArray⟩ : ByteArray).size = x.length := by simp [ByteArray.size]
 rw [Lib.run_copy_row_string _ 75 9 3 5 p.blk (a - p.at_).toNat (p.size.toNat - (a - p.at_).toNat) (p.cap - (a - p.at_).toNat) ⟨x.toArray⟩ cur 5 Tryz.underlying75 (by kernel_rfl) hbW (by rw [hsz]; omega) (by rw [hsz]; omega)]
 rw [hsz]
 have HW := h1_ hbW
 clear b3 b4 b5 hbW
 go_wp2
 go_ret
 obtain ⟨b3, b4, b5⟩ := HB.out
 refine ⟨rfl, ?_, cur, b3, ?_⟩
 · exact ((Only.of_below hb1).alloc _).setRow _ _ (.inl rfl)
 · refine (setRow_heap _ _ _ _ _ _ HW.out).trans ?_
   simp only [List.append_assoc]
   rfl
theorem e4_ (l m : List UInt8) : byteCells (l ++ m) = byteCells l ++ byteCells m := by simp [byteCells]
theorem bo_ (l : List UInt8) : (byteCells l).length = l.length := by simp [byteCells]
theorem kd_ (l : List UInt8) (n : Nat) : byteCells (l.take n) = (byteCells l).take n := by simp [byteCells]
theorem ke_ (l : List UInt8) (n : Nat) : byteCells (l.drop n) = (byteCells l).drop n := by simp [byteCells]
theorem lh_ (p : Part) (a : Int) (x : List UInt8) : bw_ (p.put a x) = bw_ p := rfl
theorem kf_ (ps : List Part) (k : Nat) (hk : k < ps.length) (p : Part) (h : bw_ p = bw_ ps[k]) : bb_ (ps.set k p) = bb_ ps := by
 induction ps generalizing k with
 | nil => simp at hk
 | cons q ps ih =>
  cases k with
  | zero => simp [bb_] at h ⊢; exact h
  | succ k =>
   have := ih k (by simpa using hk) (by simpa using h)
   simp [bb_] at this ⊢
   exact this
theorem SpaceAt.put {w w' : World} {s : Nat} {pv : Value} {ps : List Part} (h : SpaceAt w s pv ps) {k : Nat} (hk : k < ps.length) {a : Int} {x : List UInt8}
 (ho : Only (· = ps[k].blk) w w') (hs : s ≠ ps[k].blk) (hg : pv.ownBlock ≠ some ps[k].blk)
 (hin : (a - ps[k].at_).toNat + x.length ≤ ps[k].data.length)
 (hb : ∃ cur : Array Value, w.heap[ps[k].blk]? = some (.cells cur 5 (0, 0)) ∧
   w'.heap[ps[k].blk]? = some (.cells (cur.toList.take (a - ps[k].at_).toNat ++ byteCells x ++ cur.toList.drop ((a - ps[k].at_).toNat + x.length)).toArray 5 (0, 0))) :
 SpaceAt w' s pv (ps.set k (ps[k].put a x)) := by
 obtain ⟨cur, hc, hc'⟩ := hb
 refine ⟨ho.kept h.head hs, ?_, ?_, ?_⟩
 · have hpc := kf_ ps k hk (ps[k].put a x) (lh_ _ _ _)
   rw [hpc, List.length_set]
   refine ⟨h.row.1, ?_⟩
   rcases h.row.2 with h2 | ⟨g, cap, cur, rfl, h0, hgg, r⟩
   · exact .inl h2
   · exact .inr ⟨g, cap, cur, rfl, h0, ho.kept hgg (fun e => hg (by simp [Value.ownBlock, e])), r⟩
 · have : (ps.set k (ps[k].put a x)).map (·.blk) = ps.map (·.blk) := by
    rw [List.map_set]
    have : ((ps[k].put a x).blk) = (ps.map (·.blk))[k]'(by simpa using hk) := by simp [Part.put]
    rw [this, List.set_getElem_self]
   rw [this]
   exact h.bytes.1
 · intro q hq
   obtain ⟨j, hj, hjq⟩ := List.getElem_of_mem hq
   rw [List.length_set] at hj
   by_cases hjk : j = k
   · subst hjk
     rw [List.getElem_set_self] at hjq
     subst hjq
     obtain ⟨h1, h2, cur', h3, h4, h5⟩ := h.bytes.2 _ (List.getElem_mem hk)
     rw [hc] at h3
     simp at h3
     subst h3
     have hl := gb_ ps[j].data (a - ps[j].at_).toNat x hin
     refine ⟨by simpa [Part.put, hl] using h1, by simpa [Part.put, hl] using h2, _, hc', ?_, ?_⟩
     · simp [Part.put, bo_]; omega
     · simp only [Part.put, hl]
       unfold putL
       rw [e4_, e4_, kd_, ke_, ← h5]
       apply List.ext_getElem?
       intro i
       simp only [List.getElem?_take, List.getElem?_append, List.getElem?_drop, List.length_take, List.length_append, bo_, Array.length_toList]
       split <;> repeat' split
       all_goals first | rfl | omega | (congr 1; omega) | skip
   · rw [List.getElem_set_ne (by omega)] at hjq
     subst hjq
     obtain ⟨h1, h2, cur', h3, h4, h5⟩ := h.bytes.2 _ (List.getElem_mem hj)
     refine ⟨h1, h2, cur', ho.kept h3 ?_, h4, h5⟩
     intro e
     apply hjk
     have hn := h.bytes.1
     exact (List.getElem_inj (h₀ := by simpa using hj) (h₁ := by simpa using hk) hn).1 (by simpa using e)
end
section
open Go.RowKit
attribute [local go_sem] ak_ af_
theorem p5_ (at_ size kind owner mod : Int) (w : World) (h1 : 256 ≤ at_) (h2 : at_ < 1099511627776) (h3 : upI at_ 256 = at_) (h4 : 1 ≤ size) (h5 : size ≤ 1048576) (h6 : at_ + size ≤ 1099511627776) (h7 : 0 ≤ kind) (h8 : kind < 5) :
 Calls Tryz.prog 159 #[.agg #[.int .i64 at_, .int .i64 size, .int .i64 kind, .int .i64 owner, .int .i64 mod]] w fun e w' =>
  e = .returned (.bool true) ∧ Below w.heap.size w w' := by
 go_enter Tryz.func159, Tryz.ntmps159
 go_wp2
 refine co_ (by kernel_rfl) (by kernel_rfl) ?_
 repeat (go_big_quiet_step ((first | (go_at_call 105; exact c5_ ((i6_ _ _ _ (by omega) (by omega) (by omega) (by omega)).mono fun e w' ⟨h, h'⟩ => ⟨h, by subst h'; exact Below.refl _ _⟩)))))
 refine bn_ ?_
 intro w1 hb1
 have hn1 := b9_ hb1
 (have c0 := ab_ hn1 0 rfl; have f0 := ag_ hn1 0; have c1 := ab_ hn1 1 rfl; have f1 := ag_ hn1 1; have c2 := ab_ hn1 2 rfl; have f2 := ag_ hn1 2; have c3 := ab_ hn1 3 rfl; have f3 := ag_ hn1 3; have c4 := ab_ hn1 4 rfl; have f4 := ag_ hn1 4)
 have hsz1 := eo_ hb1
 have HN := h1_ hn1
 clear hn1
 go_wp2
 go_ret
 exact ⟨rfl, aw_ ((Below.refl _ _).alloc (Nat.le_refl _) _) hb1⟩
theorem new_any (w : World) : Calls Tryz.prog 31 #[] w fun e w' => e = .returned (.pointer (some ⟨w.heap.size, 0, none⟩)) ∧ w' = w.alloc (.cells #[.slice none 0 0] 159) := by
 go_enter Tryz.func31, Tryz.ntmps31
 go_wp2
 go_ret
 exact ⟨rfl, rfl⟩
theorem ks_ (s : Nat) (a : Int) (w : World) :
 Calls Tryz.prog 173 #[.pointer (some ⟨s, 0, none⟩), .int .i64 a, .string ⟨#[]⟩] w fun e w' => e = .returned (.int .i64 0) ∧ w' = w := by
 go_enter Tryz.func173, Tryz.ntmps173
 go_wp2
 go_ret
 exact ⟨rfl, rfl⟩
theorem s4_ : (Tryz.prog.info? 302).map (fun i => (i.zero, i.size, i.bytes)) = some (some (.agg #[.int .i64 0, .int .i64 0, .int .i64 0, .int .i64 0, .int .i64 0, .slice none 0 0]), 6, 64) := by kernel_rfl
theorem gc_ (p : Part) : ∀ v ∈ bw_ p, v.oneCell' = true := by
 intro v hv
 simp [bw_, f0_, fi_] at hv
 rcases hv with rfl | rfl | rfl | rfl | rfl | rfl <;> rfl
theorem kt_ (v : Value) (ps : List Part) (q : Part) (b : Nat) (w : World) (hl : ps.length ≤ 4096) (hq : w.heap[b]? = some (.cells (bw_ q).toArray 302 (0, 0)))
 (hown : w.ownsRow 0 302 6 v ps.length (bb_ ps)) :
 Calls Tryz.prog 161 #[v, .int .i64 ps.length, .slice (some ⟨b, 0, none⟩) 1 1] w fun e w' =>
  ∃ g cap, e = .returned (.slice (some ⟨g, 0, none⟩) (ps.length + 1) cap) ∧ w'.ownsRow 0 302 6 (.slice (some ⟨g, 0, none⟩) (ps.length + 1) cap) (ps.length + 1) (bb_ (ps ++ [q])) ∧ (v.ownBlock = some g ∨ w.heap.size ≤ g) ∧ Only (fun b => v.ownBlock = some b) w w' := by
 obtain ⟨i0, hi, hz0, hz1, hz2⟩ := info_parts s4_
 have HO := h1_ hown
 rcases hown.2 with ⟨rfl, h⟩ | ⟨g, cap, cur, rfl, _⟩
 · obtain rfl : ps = [] := List.eq_nil_of_length_eq_zero h
   clear hown
   go_enter Tryz.func161, Tryz.ntmps161
   go_wp2_with (at_builtin; refine wpList_append_lies _ rfl _ _ _ rfl 0 302 i0 (.agg #[.int .i64 0, .int .i64 0, .int .i64 0, .int .i64 0, .int .i64 0, .slice none 0 0]) 6 64 Tryz.underlying157 hi hz0 hz1 hz2 rfl (by omega) _ _ _ rfl HO.out ⟨b, 0, none⟩ 1 1 (bw_ q) rfl rfl ?c1 ?c2 (by omega) ?c3 ?c4 ?c5 w.heap.size rfl ?_)
   case c1 => exact World.news_of_block hq
   case c2 => exact gc_ q
   case c3 => simp [maxLen]
   case c4 => simp
   case c5 => omega
   intro g cap w1 hown1 hgrow hat hlt1
   have HH := h4_ hown1 hgrow hat hlt1
   clear hown1 hgrow hat hlt1
   go_wp2
   go_ret
   obtain ⟨hown1, hgrow, hat, hlt1⟩ := HH.out
   refine ⟨g, cap, rfl, ?_, ?_, ⟨hgrow.os, hgrow.tape, hgrow.output, hgrow.size, fun k hk hs => hgrow.block k hk fun e => hs e.symm⟩⟩
   · have hpc : bb_ [q] = bb_ [] ++ bw_ q := by simp [bb_]
     rw [hpc]
     exact hown1
   · rcases hat with h' | h'
     · exact .inl h'
     · exact .inr (by omega)
 · clear hown
   have hcap : ps.length ≤ cap := by
    rcases HO.out.2 with ⟨h, _⟩ | ⟨g', cap', cur', h, _, _, h1, _⟩
    · cases h
    · cases h; exact h1
   by_cases hce : cap = ps.length
   · subst hce
     go_enter Tryz.func161, Tryz.ntmps161
     go_wp2_with (at_builtin; refine wpList_append_lies _ rfl _ _ _ rfl 0 302 i0 (.agg #[.int .i64 0, .int .i64 0, .int .i64 0, .int .i64 0, .int .i64 0, .slice none 0 0]) 6 64 Tryz.underlying157 hi hz0 hz1 hz2 rfl (by omega) _ _ _ rfl HO.out ⟨b, 0, none⟩ 1 1 (bw_ q) rfl rfl ?c1 ?c2 (by omega) ?c3 ?c4 ?c5 w.heap.size rfl ?_)
     case c1 => exact World.news_of_block hq
     case c2 => exact gc_ q
     case c3 => unfold maxLen; omega
     case c4 => omega
     case c5 => omega
     intro g cap w1 hown1 hgrow hat hlt1
     have HH := h4_ hown1 hgrow hat hlt1
     clear hown1 hgrow hat hlt1
     go_wp2
     go_ret
     obtain ⟨hown1, hgrow, hat, hlt1⟩ := HH.out
     refine ⟨g, cap, rfl, ?_, ?_, ⟨hgrow.os, hgrow.tape, hgrow.output, hgrow.size, fun k hk hs => hgrow.block k hk fun e => hs e.symm⟩⟩
     · have hpc : bb_ (ps ++ [q]) = bb_ ps ++ bw_ q := by simp [bb_]
       rw [hpc]
       exact hown1
     · rcases hat with h' | h'
       · exact .inl h'
       · exact .inr (by omega)
   · go_enter Tryz.func161, Tryz.ntmps161
     go_wp2_with (at_builtin; refine wpList_append_lies _ rfl _ _ _ rfl 0 302 i0 (.agg #[.int .i64 0, .int .i64 0, .int .i64 0, .int .i64 0, .int .i64 0, .slice none 0 0]) 6 64 Tryz.underlying157 hi hz0 hz1 hz2 rfl (by omega) _ _ _ rfl HO.out ⟨b, 0, none⟩ 1 1 (bw_ q) rfl rfl ?c1 ?c2 (by omega) ?c3 ?c4 ?c5 w.heap.size rfl ?_)
     case c1 => exact World.news_of_block hq
     case c2 => exact gc_ q
     case c3 => unfold maxLen; omega
     case c4 => omega
     case c5 => omega
     intro g cap w1 hown1 hgrow hat hlt1
     have HH := h4_ hown1 hgrow hat hlt1
     clear hown1 hgrow hat hlt1
     go_wp2
     go_ret
     obtain ⟨hown1, hgrow, hat, hlt1⟩ := HH.out
     refine ⟨g, cap, rfl, ?_, ?_, ⟨hgrow.os, hgrow.tape, hgrow.output, hgrow.size, fun k hk hs => hgrow.block k hk fun e => hs e.symm⟩⟩
     · have hpc : bb_ (ps ++ [q]) = bb_ ps ++ bw_ q := by simp [bb_]
       rw [hpc]
       exact hown1
     · rcases hat with h' | h'
       · exact .inl h'
       · exact .inr (by omega)
end
section
open Go.RowKit
attribute [local go_sem] ak_ af_
theorem ku_ (s : Nat) (pv : Value) (ps : List Part) (a : Int) (w : World) (hA : AreasOk ps) (hsp : SpaceAt w s pv ps) (hk : ∀ p ∈ ps, p.at_ < a) :
 Calls Tryz.prog 160 #[.pointer (some ⟨s, 0, none⟩), .int .i64 a] w fun e w' =>
  Below w.heap.size w w' ∧ e = .returned (.tuple #[.int .i64 ps.length, .bool false]) :=
 (hv_ s pv ps a w hA hsp).mono fun e w' ⟨hb, i, ⟨h1, h2, h3⟩, h⟩ => by
   obtain rfl : i = ps.length := by
    rcases Nat.lt_or_ge i ps.length with h0 | h0
    · have := h3 i h0 (Nat.le_refl _)
      have := hk _ (List.getElem_mem h0)
      omega
    · omega
   refine ⟨hb, ?_⟩
   rw [h]
   simp
def bt_ (at_ size kind owner mod : Int) (blk : Nat) : Part := { at_ := at_, size := size, kind := kind, owner := owner, mod := mod, blk := blk, cap := size.toNat, data := List.replicate size.toNat 0 }
theorem fj_ : (Tryz.prog.info? 5).map (fun i => (i.zero, i.size, i.bytes)) = some (some (.int .u8 0), 1, 1) := by kernel_rfl
theorem kv_ {s g4 cap4 : Nat} {pv : Value} {ps : List Part} {at_ size kind owner mod : Int} {M : Array Value} {w w3 w4 : World} {V : Array Value}
 (hs : SpaceAt w3 s pv ps) (hb : Below w.heap.size w w3) (hls : s < w.heap.size) (hbl : ∀ p ∈ ps, p.blk < w.heap.size) (h4 : 1 ≤ size) (h5 : size ≤ 1048576) (hM : M = madeCells (Value.cells (.int .u8 0)) (size.toNat * 1))
 (hown4 : w4.ownsRow 0 302 6 (.slice (some ⟨g4, 0, none⟩) (ps.length + 1) cap4) (ps.length + 1) (bb_ (ps ++ [bt_ at_ size kind owner mod w3.heap.size])))
 (hat4 : pv.ownBlock = some g4 ∨ ((w3.drew.alloc (.cells M 5)).alloc (.cells V 302)).heap.size ≤ g4)
 (hk4 : Only (fun b => pv.ownBlock = some b) ((w3.drew.alloc (.cells M 5)).alloc (.cells V 302)) w4) :
 Only (fun b => b = s ∨ pv.ownBlock = some b) w (w4.setCell ⟨s, 0, none⟩ (.slice (some ⟨g4, 0, none⟩) (ps.length + 1) cap4)) ∧
 ∃ pv' blk, SpaceAt (w4.setCell ⟨s, 0, none⟩ (.slice (some ⟨g4, 0, none⟩) (ps.length + 1) cap4)) s pv' (ps ++ [bt_ at_ size kind owner mod blk]) ∧ w.heap.size ≤ blk ∧
  (pv'.ownBlock = pv.ownBlock ∨ ∃ g, pv'.ownBlock = some g ∧ w.heap.size ≤ g) := by
 have hsz := hb.size
 have hgt : ∀ b t (o : Array Value), w3.heap[b]? = some (.cells o t (0, 0)) → t ≠ 302 → ¬ (pv.ownBlock = some b) := fun b t o hb' ht he => by
  obtain ⟨cur, hcur⟩ := b5_ hs.row b he
  rw [hb'] at hcur
  simp at hcur
  exact ht hcur.2
 have hnew : (Only (fun b => pv.ownBlock = some b) w3 w4) := ((((Only.refl _ _).drew).alloc _).alloc _).trans hk4
 have hs4 : w4.heap[s]? = some (.cells #[pv] 159 (0, 0)) := hnew.kept hs.head (hgt _ _ _ hs.head (by decide))
 have hgs : g4 ≠ s := by
  rcases hown4.2 with ⟨h, _⟩ | ⟨g, cap, cur, h, _, hg, _⟩
  · cases h
  · cases h
    intro e
    rw [e, hs4] at hg
    simp at hg
 have hM4 : w4.heap[w3.heap.size]? = some (.cells M 5 (0, 0)) := by
  refine hk4.kept (ae_ (heap_alloc_new w3.drew _)) ?_
  intro he
  obtain ⟨cur, hcur⟩ := b5_ hs.row _ he
  have := lt_of_block hcur
  omega
 have hl : (List.replicate size.toNat (0 : UInt8)).length = size.toNat := by simp
 refine ⟨?_, _, w3.heap.size, ⟨one_setCell hs4, ?_, ?_, ?_⟩, hsz, ?_⟩
 · have := (hnew.mono (T := fun b => b = s ∨ pv.ownBlock = some b) (fun _ _ h => .inr h))
   exact ((Only.of_below hb).trans this).setCell _ _ (.inl (.inl rfl))
 · rw [List.length_append]
   exact ownsRow_setCell_other hown4 (by simpa [Value.ownBlock] using hgs) _
 · rw [List.map_append, List.nodup_append]
   refine ⟨hs.bytes.1, by simp, ?_⟩
   intro b hb' c hc' e
   simp [bt_] at hc'
   obtain ⟨q, hq, rfl⟩ := List.mem_map.1 hb'
   have := hbl q hq
   subst hc'
   exact absurd e (by show q.blk ≠ w3.heap.size; omega)
 · intro q hq
   rcases List.mem_append.1 hq with hq | hq
   · obtain ⟨h1, h2, cur, h3, h4', h5'⟩ := hs.bytes.2 q hq
     have hne : q.blk ≠ s := by
      intro e
      rw [e, hs.head] at h3
      simp at h3
     exact ⟨h1, h2, cur, ay_ (hnew.kept h3 (hgt _ _ _ h3 (by decide))) _ _ hne, h4', h5'⟩
   · simp at hq
     subst hq
     refine ⟨by simp [bt_]; omega, by simp [bt_], M, ay_ hM4 _ _ (by show w3.heap.size ≠ s; omega), ?_, ?_⟩
     · rw [hM, size_madeCells]; simp [bt_]
     · rw [hM]
       show List.take _ (madeCells #[.int .u8 0] (size.toNat * 1)).toList = _
       rw [toList_madeCells_one]
       simp [bt_, byteCells]
 · rcases hat4 with h | h
   · exact .inl h.symm
   · exact .inr ⟨g4, rfl, by simp at h; omega⟩
end
end Go.Proofs.YtacaejpamidkcaaGreatDoor
