/- slices.Clone. load: load. load: functions, inits, Start, Mods. proc: spawn. -/
import Derived.Deep.AppendLies
import Derived.Lib.LazyBuf
import Derived.Test.YtkbilipgidcgeaaGreatDoorH26
import Derived.Test.YtkbilipgidcgeaaGreatDoorH01
import Derived.Test.YtkbilipgidcgeaaGreatDoorH27
import Derived.Test.YtkbilipgidcgeaaGreatDoorH18
set_option linter.unusedVariables false
set_option linter.unusedSimpArgs false
namespace Go.Proofs.YtkbilipgidcgeaaGreatDoor.Tiny
open Go.RowKit

attribute [local go_sem] ext_cell ext_frozen

theorem infoc_mods : (Tryz.prog.info? 91).map (fun i => (i.zero, i.size, i.bytes)) = some (some (.agg zeroMod), 32, 568) := by kernel_rfl

set_option maxRecDepth 100000 in
theorem clone_mods_nil (w : World) : Calls Tryz.prog 71 #[.slice none 0 0] w fun e w' => e = .returned (.slice none 0 0) ∧ w' = w := by
  have hen := fun (w : World) (a : Option Addr) (l c : Nat) => _root_.Go.run_eql_slice_nil (P := Tryz.prog) w 92 91 a l c Tryz.underlying92
  go_enter Tryz.func71, Tryz.ntmps71
  go_wp2
  go_ret
  exact ⟨rfl, rfl⟩

set_option maxRecDepth 100000 in
theorem clone_mods (g n cap : Nat) (xs : List Value) (w : World) (hc : ∀ j u, xs[j]? = some u → w.cell? ⟨g, j, none⟩ = some u) (hl : xs.length = n * 32) (h1 : ∀ u ∈ xs, u.oneCell' = true) (hn : 0 < n) (hm : n ≤ 2000000) (hg : g < w.heap.size) :
    Calls Tryz.prog 71 #[.slice (some ⟨g, 0, none⟩) n cap] w fun e w' => Below w.heap.size w w' ∧ ∃ g' cap', e = .returned (.slice (some ⟨g', 0, none⟩) n cap') ∧ w'.ownsRow w.heap.size 91 32 (.slice (some ⟨g', 0, none⟩) n cap') n xs := by
  obtain ⟨i0, hi, hz0, hz1, hz2⟩ := info_parts infoc_mods
  have HC := Lib.hid (And.intro hc h1)
  clear hc h1
  have hen := fun (w : World) (a : Option Addr) (l c : Nat) => _root_.Go.run_eql_slice_nil (P := Tryz.prog) w 92 91 a l c Tryz.underlying92
  go_enter Tryz.func71, Tryz.ntmps71
  go_wp2_with (at_builtin; refine wpList_append_lies _ rfl _ _ _ rfl w.heap.size 91 i0 (.agg zeroMod) 32 568 Tryz.underlying92 hi hz0 hz1 hz2 rfl (by omega) _ 0 [] rfl ?c0 ⟨g, 0, none⟩ n cap xs rfl (by omega) ?c1 HC.out.2 (by omega) ?c3 ?c4 ?c5 (w.heap.size + 1) (by simp) ?_)
  case c0 => exact ⟨rfl, .inr ⟨w.heap.size, 0, #[], rfl, Nat.le_refl _, heap_alloc_new w _, by decide, by decide, rfl, rfl⟩⟩
  case c1 =>
    intro j u hj
    rw [addr0]
    exact (((Below.refl w.heap.size w).alloc (Nat.le_refl _) _).cell (p := ⟨g, j, none⟩) hg).trans (HC.out.1 j u hj)
  case c3 => unfold maxLen; omega
  case c4 => omega
  case c5 => simp
  intro g1 cap1 w1 hown1 hgrow hat hlt1
  have HG := Lib.hid (And.intro hown1 (And.intro hgrow (And.intro hat hlt1)))
  clear hown1 hgrow hat hlt1
  go_wp2
  go_ret
  obtain ⟨hown1, hgrow, hat, hlt1⟩ := HG.out
  refine ⟨((Below.refl _ _).alloc (Nat.le_refl _) _).grown hgrow (by simp) (fun k hk => by simp [Value.ownBlock] at hk; omega), g1, cap1, by simp, by simpa using hown1⟩

theorem infoc_threads : (Tryz.prog.info? 100).map (fun i => (i.zero, i.size, i.bytes)) = some (some (.agg #[.int .i64 0, .int .i64 0, .int .i64 0, .int .i64 0, .int .i64 0, .int .i64 0, .int .i64 0, .int .i64 0, .int .i64 0, .int .i64 0, .int .i64 0, .int .i64 0, .int .i64 0, .int .i64 0, .int .i64 0, .int .i64 0, .int .i64 0, .int .i64 0, .int .i64 0, .int .i64 0, .int .i64 0, .slice none 0 0, .slice none 0 0]), 23, 216) := by kernel_rfl

set_option maxRecDepth 100000 in
theorem clone_threads_nil (w : World) : Calls Tryz.prog 101 #[.slice none 0 0] w fun e w' => e = .returned (.slice none 0 0) ∧ w' = w := by
  have hen := fun (w : World) (a : Option Addr) (l c : Nat) => _root_.Go.run_eql_slice_nil (P := Tryz.prog) w 79 100 a l c Tryz.underlying79
  go_enter Tryz.func101, Tryz.ntmps101
  go_wp2
  go_ret
  exact ⟨rfl, rfl⟩

set_option maxRecDepth 100000 in
theorem clone_threads (g n cap : Nat) (xs : List Value) (w : World) (hc : ∀ j u, xs[j]? = some u → w.cell? ⟨g, j, none⟩ = some u) (hl : xs.length = n * 23) (h1 : ∀ u ∈ xs, u.oneCell' = true) (hn : 0 < n) (hm : n ≤ 2000000) (hg : g < w.heap.size) :
    Calls Tryz.prog 101 #[.slice (some ⟨g, 0, none⟩) n cap] w fun e w' => Below w.heap.size w w' ∧ ∃ g' cap', e = .returned (.slice (some ⟨g', 0, none⟩) n cap') ∧ w'.ownsRow w.heap.size 100 23 (.slice (some ⟨g', 0, none⟩) n cap') n xs := by
  obtain ⟨i0, hi, hz0, hz1, hz2⟩ := info_parts infoc_threads
  have HC := Lib.hid (And.intro hc h1)
  clear hc h1
  have hen := fun (w : World) (a : Option Addr) (l c : Nat) => _root_.Go.run_eql_slice_nil (P := Tryz.prog) w 79 100 a l c Tryz.underlying79
  go_enter Tryz.func101, Tryz.ntmps101
  go_wp2_with (at_builtin; refine wpList_append_lies _ rfl _ _ _ rfl w.heap.size 100 i0 (.agg #[.int .i64 0, .int .i64 0, .int .i64 0, .int .i64 0, .int .i64 0, .int .i64 0, .int .i64 0, .int .i64 0, .int .i64 0, .int .i64 0, .int .i64 0, .int .i64 0, .int .i64 0, .int .i64 0, .int .i64 0, .int .i64 0, .int .i64 0, .int .i64 0, .int .i64 0, .int .i64 0, .int .i64 0, .slice none 0 0, .slice none 0 0]) 23 216 Tryz.underlying79 hi hz0 hz1 hz2 rfl (by omega) _ 0 [] rfl ?c0 ⟨g, 0, none⟩ n cap xs rfl (by omega) ?c1 HC.out.2 (by omega) ?c3 ?c4 ?c5 (w.heap.size + 1) (by simp) ?_)
  case c0 => exact ⟨rfl, .inr ⟨w.heap.size, 0, #[], rfl, Nat.le_refl _, heap_alloc_new w _, by decide, by decide, rfl, rfl⟩⟩
  case c1 =>
    intro j u hj
    rw [addr0]
    exact (((Below.refl w.heap.size w).alloc (Nat.le_refl _) _).cell (p := ⟨g, j, none⟩) hg).trans (HC.out.1 j u hj)
  case c3 => unfold maxLen; omega
  case c4 => omega
  case c5 => simp
  intro g1 cap1 w1 hown1 hgrow hat hlt1
  have HG := Lib.hid (And.intro hown1 (And.intro hgrow (And.intro hat hlt1)))
  clear hown1 hgrow hat hlt1
  go_wp2
  go_ret
  obtain ⟨hown1, hgrow, hat, hlt1⟩ := HG.out
  refine ⟨((Below.refl _ _).alloc (Nat.le_refl _) _).grown hgrow (by simp) (fun k hk => by simp [Value.ownBlock] at hk; omega), g1, cap1, by simp, by simpa using hown1⟩

set_option maxRecDepth 100000 in
theorem clone_strata_nil (w : World) : Calls Tryz.prog 51 #[.slice none 0 0] w fun e w' => e = .returned (.slice none 0 0) ∧ w' = w := by
  have hen := fun (w : World) (a : Option Addr) (l c : Nat) => _root_.Go.run_eql_slice_nil (P := Tryz.prog) w 61 125 a l c Tryz.underlying61
  go_enter Tryz.func51, Tryz.ntmps51
  go_wp2
  go_ret
  exact ⟨rfl, rfl⟩

set_option maxRecDepth 100000 in
theorem clone_saved_nil (w : World) : Calls Tryz.prog 185 #[.slice none 0 0] w fun e w' => e = .returned (.slice none 0 0) ∧ w' = w := by
  have hen := fun (w : World) (a : Option Addr) (l c : Nat) => _root_.Go.run_eql_slice_nil (P := Tryz.prog) w 98 314 a l c Tryz.underlying98
  go_enter Tryz.func185, Tryz.ntmps185
  go_wp2
  go_ret
  exact ⟨rfl, rfl⟩

theorem clip_mods_nil (w : World) : Calls Tryz.prog 152 #[.slice none 0 0] w fun e w' => e = .returned (.slice none 0 0) ∧ w' = w := by
  go_enter Tryz.func152, Tryz.ntmps152
  go_wp2
  go_ret
  exact ⟨rfl, rfl⟩
theorem clip_ints_nil (w : World) : Calls Tryz.prog 27 #[.slice none 0 0] w fun e w' => e = .returned (.slice none 0 0) ∧ w' = w := by
  go_enter Tryz.func27, Tryz.ntmps27
  go_wp2
  go_ret
  exact ⟨rfl, rfl⟩
end Go.Proofs.YtkbilipgidcgeaaGreatDoor.Tiny

namespace Go.Proofs.YtkbilipgidcgeaaGreatDoor.Tiny
open Go.RowKit Go.ChangeMaps
attribute [local go_sem] ext_cell ext_frozen run_store_func mk_ints0 mk_ints1 mk_ints2 mk_lists0 mk_lists1 mk_lists2 ta_ints run_makeMap

theorem wpList_load_mid {P : Program} {ops : Array Oper} {rest : List Oper} {o : Oper} {a : Act} {w : World} {Q : Exit → Act → World → Prop} (hgd : o.guard = none) (ty : TypeId) (x : Operand) (ho : o.op = .load ty x)
    (b off : Nat) (hx : a.eval x = .pointer (some ⟨b, off, none⟩)) (cs : List Value) (d : TypeDesc) (hc : w.rangeAt b off cs)
    (hu : P.underlying ty = some d) (hd : d.isRow = true) (hi : (P.info? ty).map (·.size) = some cs.length)
    (h : wpList P ops Q rest (a.put o.dst (.agg cs.toArray)) w) : wpList P ops Q (o :: rest) a w := by
  refine wpList_plain hgd fun _ hK => ?_
  unfold Oper.wp
  simp [execOp, ho, hx, Instr.loadAt, Instr.sureAddr, run_loadVar_mid w b off ty cs d hc hu hd hi]
  exact hK _ _ h

theorem row_range {w : World} {base : Nat} {e : TypeId} {size g cap : Nat} {n : Nat} {xs : List Value} (h : w.ownsRow base e size (.slice (some ⟨g, 0, none⟩) n cap) n xs) : w.rangeAt g 0 xs := fun j v hv => by
  rw [Nat.zero_add]; exact (row_cell h j hv).1

theorem buildSlice_mod' (t : Tmp) (B : ByteArray) (x y : Int) (o : Oper) (a : Act) (w : World) (ho : o.op = .buildSlice 92 1 #[(0, .tmp t)]) (ht : a.tmps[t]?.getD undef = .agg (modC B x y).toArray) :
    (execOp a.eval o).run Tryz.prog w = .ok (.value (sl 1 w.heap.size)) (w.alloc (.cells (modC B x y).toArray 91)) := by
  unfold modC labCells at *
  unfold sl
  simp [execOp, ho, ht, go_sem]

theorem mod_size (B : ByteArray) (x y : Int) : (Tryz.prog.info? 91).map (·.size) = some (modC B x y).toArray.size := by unfold modC labCells; kernel_rfl
theorem mod_len (B : ByteArray) (x y : Int) : (Tryz.prog.info? 91).map (·.size) = some (modC B x y).length := by unfold modC labCells; kernel_rfl
theorem mod_all (B : ByteArray) (x y : Int) : (modC B x y).toArray.all (·.oneCell') = true := by unfold modC labCells; simp [Value.oneCell']
theorem modC_get13 (B : ByteArray) (x y : Int) : (modC B x y)[(13 : Nat)]? = some (.slice none 0 0) := by unfold modC labCells; rfl
attribute [local irreducible] labCells modC

set_option maxRecDepth 100000 in
set_option maxHeartbeats 2000000 in
theorem lload (l s b st mo th at_ : Nat) (L : List UInt8) (B : ByteArray) (hB : B = ⟨L.toArray⟩) (hL : L.length = 256) (w : World) (hl : w.heap[l]? = some (.cells (loaderC s b st (.slice none 0 0) (.slice none 0 0)).toArray 149 (0, 0)))
    (hs : w.heap[st]? = some (.map #[⟨.string labS, .agg (labCells B), 0⟩] 1)) (hsp : SpaceAt w s (.slice none 0 0) [])
    (hbb : w.heap[b]? = some (.cells (blocksC s mo th at_).toArray 146 (0, 0))) (hmo : w.heap[mo]? = some (.map #[] 0)) (hth : w.heap[th]? = some (.map #[] 0)) (nmt : mo ≠ th) :
    Calls Tryz.prog 64 #[.pointer (some ⟨l, 0, none⟩), .string labS, .int .i64 0, .bool true] w fun e w' => ∃ go co gm cm gq cq, e = .returned (.tuple #[.slice (some ⟨go, 0, none⟩) 1 co, .int .i64 0]) ∧
      Only (fun k => k = l ∨ k = s ∨ k = mo) w w' ∧ w'.heap[l]? = some (.cells (loaderC s b st (.slice (some ⟨gm, 0, none⟩) 1 cm) (.slice (some ⟨gq, 0, none⟩) 1 cq)).toArray 149 (0, 0)) ∧
      w'.ownsRow w.heap.size 91 32 (.slice (some ⟨gm, 0, none⟩) 1 cm) 1 (modC B 512 1) ∧ w'.ownsRow w.heap.size 3 1 (.slice (some ⟨gq, 0, none⟩) 1 cq) 1 [.int .i64 0] ∧
      w'.ownsRow w.heap.size 3 1 (.slice (some ⟨go, 0, none⟩) 1 co) 1 [.int .i64 0] ∧ w'.heap[mo]? = some (.map #[⟨.int .i64 0, .agg (labCells B), 0⟩] 1) ∧
      ∃ g cap b1 b2, SpaceAt w' s (.slice (some ⟨g, 0, none⟩) 2 cap) [codeP L b1, dataP L b2] ∧ w.heap.size ≤ g ∧ w.heap.size ≤ b1 ∧ w.heap.size ≤ b2 := by
  have hsz := lab_size' hB hL
  have HB := Lib.hid (And.intro hB hL)
  have HH := Lib.hid (And.intro hl (And.intro hs (And.intro hsp (And.intro hbb (And.intro hmo (And.intro hth nmt))))))
  have HS := Lib.hid hsz
  clear hB hL hl hs hsp hbb hmo hth nmt hsz
  go_enter Tryz.func64, Tryz.ntmps64
  go_wp2_with fail
  refine (lcollect l s b st B HS.out _ HH.out.1 HH.out.2.1).mono ?_
  rintro e w1 ⟨t, nm, gt, ct, rfl, hb1, ht1, ltt, hown1⟩
  have c0 := cell_l ht1 0 rfl; have c1 := cell_l ht1 1 rfl
  have lt1 := lt_of_block ht1
  have lg1 := (ownsRow_lt hown1).2.1
  have H1 := Lib.hid (And.intro hb1 (And.intro ht1 hown1))
  clear hb1 ht1 hown1
  go_wp2
  refine wp_loop_rounds 2 ?_
  rw [rounds_succ]
  go_upto_region 7 with (first
    | (refine wpList_load_mid rfl 91 (.tmp 41) rfl gt 0 rfl (modC B 0 1) _ (row_range H1.out.2.2) Tryz.underlying91 rfl (mod_len B 0 1) ?_)
    | ((with_reducible refine at_store_law ?_); refine wpList_store_row rfl 91 _ _ rfl _ _ rfl rfl _ _ (by (repeat (first | assumption | exact heap_alloc_new _ _ | refine block_old ?_ | refine block_drew ?_ | apply setRow_heap | (refine (setRow_other _ _ _ _ ?_).trans ?_; omega)))) (mod_size B 0 1) (by unfold modC labCells; rfl) (mod_all B 0 1) ?_; (try simp only [World.setRow_alloc_new])))
  obtain ⟨hl, hs, hsp, hbb, hmo, hth, nmt⟩ := HH.out
  have kB : Below w.heap.size w (w1.alloc (.cells (modC B 0 1).toArray 91)) := H1.out.1.alloc H1.out.1.size _
  have kl := (kB.block _ (lt_of_block hl)).trans hl
  have kb := (kB.block _ (lt_of_block hbb)).trans hbb
  have km := (kB.block _ (lt_of_block hmo)).trans hmo
  have kh := (kB.block _ (lt_of_block hth)).trans hth
  have ksp := hsp.below kB
  have kx := heap_alloc_new w1 (.cells (modC B 0 1).toArray 91)
  have lw := H1.out.1.size
  have HK := Lib.hid (And.intro kB (And.intro kl (And.intro kb (And.intro km (And.intro kh (And.intro ksp kx))))))
  clear hl hs hsp hbb hmo hth kB kl kb km kh ksp kx
  go_upto_region 10 with (go_at_call 150; refine (lplace l s b st w1.heap.size mo th at_ L B HB.out.1 HB.out.2 _ HK.out.2.1 HK.out.2.2.2.2.2.2 HK.out.2.2.2.2.2.1 HK.out.2.2.1 HK.out.2.2.2.1 HK.out.2.2.2.2.1 nmt).mono ?_; rintro e w2 ⟨rfl, ho2, hx2, hm2, g, cap, b1, b2, hsp2, lg, lb1, lb2⟩; have H2 := Lib.hid (And.intro ho2 (And.intro hx2 (And.intro hm2 hsp2))); clear ho2 hx2 hm2 hsp2)
  obtain ⟨kB, kl, kb, km, kh, ksp, kx⟩ := HK.out
  obtain ⟨ho2, hx2, hm2, hsp2⟩ := H2.out
  simp at lg lb1 lb2
  have nlx : l ≠ w1.heap.size := by have := lt_of_block HH.out.1; omega
  have yo : Only (fun k => k = l ∨ k = s ∨ k = mo) w w2 := (Only.of_below kB).then ho2 (by rintro k hk (h | h | h); exact .inr (.inl h); omega; exact .inr (.inr h))
  have nls : l ≠ s := block_ne kl ksp.head (by decide)
  have nlm : l ≠ mo := by intro h; rw [h, km] at kl; simp at kl
  have yl := ho2.kept kl (by rintro (h | h | h); exact nls h; exact nlx h; exact nlm h)
  have lt2 : t < w2.heap.size := by have := ho2.size; simp at this; omega
  have yt := ho2.kept (block_old H1.out.2.1) (by rintro (h | h | h); have := lt_of_block HH.out.2.2.1.head; omega; omega; have := lt_of_block HH.out.2.2.2.2.1; omega)
  have ls2 := hsp2.lt
  have HY := Lib.hid (And.intro yo (And.intro hm2 (And.intro hsp2 yt)))
  have HG := Lib.hid (And.intro lg (And.intro lb1 (And.intro lb2 (And.intro nls nlm))))
  have llw := lt_of_block HH.out.1
  unfold loaderC at yl
  clear kB kb km kh ksp kx ho2 hm2 hsp2 kl HK H2 lg lb1 lb2 yo yt c0 c1 lt1 lg1 ls2 H1
  refine wp_region_facts [.val (.pointer (some ⟨l, 0, none⟩)), .val (.pointer (some ⟨l, 0, none⟩)), .val (.pointer (some ⟨l, 0, none⟩)), .val (.pointer (some ⟨l, 4, none⟩)), .val (.slice none 0 0), .val (.slice none 0 0), .val (.agg ((modC B 512 1).toArray)), .blk (sl 1) (.cells (modC B 512 1).toArray 91 (0, 0)), .more (fun v w' => ∃ g cap, v = .slice (some ⟨g, 0, none⟩) 1 cap ∧ w'.ownsRow w2.heap.size 91 32 (.slice (some ⟨g, 0, none⟩) 1 cap) 1 (modC B 512 1)) (fun v w' w'' hb h => by obtain ⟨g, cap, h1, h3⟩ := h; exact ⟨g, cap, h1, ownsRow_below' h3 hb⟩), .val (.pointer (some ⟨l, 0, none⟩)), .val (.pointer (some ⟨l, 4, none⟩))] (by kernel_rfl) (by kernel_rfl) ?_ ?_
  · simp only [stepsAll, List.take, List.length]
    refine ⟨?_, ?_, ?_, ?_, ?_, ?_, ?_, ?_, ?_, ?_, ?_, ?_⟩
    all_goals first | trivial | (intro a wr hb hf hd)
    all_goals have hf0 : a.tmps[(0 : Nat)]?.getD undef = .pointer (some ⟨l, 0, none⟩) := (hf 0 (by decide +kernel)).trans rfl
    all_goals have hf13 : a.tmps[(13 : Nat)]?.getD undef = .pointer (some ⟨w1.heap.size, 0, none⟩) := (hf 13 (by decide +kernel)).trans rfl
    · exact grow_tmp _ rfl ⟨hf0, fun h => by cases h⟩
    · exact grow_tmp _ rfl ⟨hf0, fun h => by cases h⟩
    · have h59 : a.tmps[(59 : Nat)]?.getD undef = .pointer (some ⟨l, 0, none⟩) := hd 1 (by simp) (by kernel_rfl)
      exact grow_value (v := .pointer (some ⟨l, 0, none⟩)) (by simp [execOp, h59, go_sem]) (Below.refl _ _) ⟨rfl, fun h => by cases h⟩
    · have h60 : a.tmps[(60 : Nat)]?.getD undef = .pointer (some ⟨l, 0, none⟩) := hd 2 (by simp) (by kernel_rfl)
      exact grow_value (v := .pointer (some ⟨l, 4, none⟩)) (by simp [execOp, h60, go_sem]) (Below.refl _ _) ⟨rfl, fun h => by cases h⟩
    · have h61 : a.tmps[(61 : Nat)]?.getD undef = .pointer (some ⟨l, 4, none⟩) := hd 3 (by simp) (by kernel_rfl)
      have hc := cell_l ((hb.block _ (lt_of_block yl)).trans yl) 4 (rfl)
      exact grow_value (v := .slice none 0 0) (by simp [execOp, h61, hc, go_sem]) (Below.refl _ _) ⟨rfl, fun h => by cases h⟩
    · have h62 : a.tmps[(62 : Nat)]?.getD undef = .slice none 0 0 := hd 4 (by simp) (by kernel_rfl)
      refine grow_call (f := 152) (args := #[.slice none 0 0]) (by simp [execOp, h62, go_sem]) ?_
      refine (clip_mods_nil _).mono ?_
      rintro e w3 ⟨rfl, rfl⟩
      exact ⟨_, rfl, Below.refl _ _, rfl, fun h => by cases h⟩
    · exact grow_load_row 13 91 rfl w1.heap.size hf13 _ _ _ _ ((hb.block _ (lt_of_block hx2)).trans hx2) Tryz.underlying91 rfl (mod_size B 512 1) ⟨rfl, fun h => by cases h⟩
    · have h64 : a.tmps[(64 : Nat)]?.getD undef = .agg (modC B 512 1).toArray := hd 6 (by simp) (by kernel_rfl)
      exact grow_value (buildSlice_mod' 64 B 512 1 _ _ _ rfl h64) ((Below.refl _ _).alloc (Nat.le_refl _) _) ⟨⟨_, rfl, heap_alloc_new _ _⟩, fun _ b hb => new_slice hb⟩
    · have h63 : a.tmps[(63 : Nat)]?.getD undef = .slice none 0 0 := hd 5 (by simp) (by kernel_rfl)
      obtain ⟨q, h65, hq⟩ : ∃ q, a.tmps[(65 : Nat)]?.getD undef = sl 1 q ∧ wr.heap[q]? = some (.cells (modC B 512 1).toArray 91 (0, 0)) := hd 7 (by simp) (by kernel_rfl)
      refine grow_append_nil 63 65 92 91 (.agg zeroMod) 32 568 rfl Tryz.underlying92 info_mod rfl (by omega) q 1 (modC B 512 1) h63 h65 hq (modC_len B 512 1) (modC_one B 512 1) (by omega) ?_
      intro cap w' ho hb'
      exact ⟨⟨_, cap, rfl, ownsRow_lower ho hb.size⟩, fun h => by cases h⟩
    · have h58 : a.tmps[(58 : Nat)]?.getD undef = .pointer (some ⟨l, 0, none⟩) := hd 0 (by simp) (by kernel_rfl)
      exact grow_value (v := .pointer (some ⟨l, 0, none⟩)) (by simp [execOp, h58, go_sem]) (Below.refl _ _) ⟨rfl, fun h => by cases h⟩
    · have h67 : a.tmps[(67 : Nat)]?.getD undef = .pointer (some ⟨l, 0, none⟩) := hd 9 (by simp) (by kernel_rfl)
      exact grow_value (v := .pointer (some ⟨l, 4, none⟩)) (by simp [execOp, h67, go_sem]) (Below.refl _ _) ⟨rfl, fun h => by cases h⟩
  · intro fv w3 hb3 hs hn hne
    have g58 : fv 58 = .pointer (some ⟨l, 0, none⟩) := hs 0 (by simp)
    have g59 : fv 59 = .pointer (some ⟨l, 0, none⟩) := hs 1 (by simp)
    have g60 : fv 60 = .pointer (some ⟨l, 0, none⟩) := hs 2 (by simp)
    have g61 : fv 61 = .pointer (some ⟨l, 4, none⟩) := hs 3 (by simp)
    have g62 : fv 62 = .slice none 0 0 := hs 4 (by simp)
    have g63 : fv 63 = .slice none 0 0 := hs 5 (by simp)
    have g64 : fv 64 = .agg ((modC B 512 1).toArray) := hs 6 (by simp)
    have g67 : fv 67 = .pointer (some ⟨l, 0, none⟩) := hs 9 (by simp)
    have g68 : fv 68 = .pointer (some ⟨l, 4, none⟩) := hs 10 (by simp)
    obtain ⟨gm, cm, g66, hownm⟩ : ∃ g cap, fv 66 = .slice (some ⟨g, 0, none⟩) 1 cap ∧ w3.ownsRow w2.heap.size 91 32 (.slice (some ⟨g, 0, none⟩) 1 cap) 1 (modC B 512 1) := hs 8 (by simp)
    rw [show (List.range (List.length _)).map (dstOf _) = [58, 59, 60, 61, 62, 63, 64, 65, 66, 67, 68] from by kernel_rfl]
    simp only [actOf, List.foldl, Act.put, List.drop, List.length, g58, g59, g60, g61, g62, g63, g64, g67, g68, g66, List.setIfInBounds_toArray, List.set_cons_zero, List.set_cons_succ]
    clear hs hn hne g58 g59 g60 g61 g62 g63 g64 g67 g68 g66
    have zl := (hb3.block _ (lt_of_block yl)).trans yl
    have c4 := cell_l zl 4 rfl; have f4 := free_in zl 4
    have HZ := Lib.hid (And.intro (HY.out.1.call hb3) (And.intro ((hb3.block _ (lt_of_block HY.out.2.1)).trans HY.out.2.1) (And.intro (HY.out.2.2.1.below hb3) (And.intro ((hb3.block _ lt2).trans HY.out.2.2.2) (And.intro zl hownm)))))
    have lgm := (ownsRow_lt hownm).1
    have lgm2 := (ownsRow_lt hownm).2.1
    have l23 := hb3.size
    have l12 := HY.out.1.size
    clear zl hb3 hownm yl hx2 HY
    go_upto_region 11 with fail
    refine name_world fun V hV => ?_
    obtain ⟨zo, zm, zsp, zt, zl, zown⟩ := HZ.out
    have nlt : l ≠ t := by omega
    have ngl : gm ≠ l := by omega
    have vo : Only (fun k => k = l ∨ k = s ∨ k = mo) w V := by rw [← hV]; exact zo.setCell _ _ (.inl (.inl rfl))
    have vv : Only (· = l) w3 V := by rw [← hV]; exact (Only.refl _ _).setCell _ _ (.inl rfl)
    have vl : V.heap[l]? = some (.cells (loaderC s b st (.slice (some ⟨gm, 0, none⟩) 1 cm) (.slice none 0 0)).toArray 149 (0, 0)) := by rw [← hV]; exact block_set zl 4 _
    have vm := vv.kept zm (fun h => HG.out.2.2.2.2 h.symm)
    have vt := vv.kept zt (fun h => nlt h.symm)
    have vown := ownsRow_kept zown vv ngl
    have vsp : SpaceAt V s (.slice (some ⟨g, 0, none⟩) 2 cap) [codeP L b1, dataP L b2] := zsp.kept vv (by
      have := HG.out
      rintro k hk (rfl : k = l)
      rcases hk with h | h | ⟨p, hp, h⟩
      · exact this.2.2.2.1 h
      · simp [Value.ownBlock] at h; omega
      · simp at hp; rcases hp with rfl | rfl <;> simp [codeP, dataP, newPart, Part.put] at h <;> omega)
    have e0 := cell_l vt 0 rfl; have e1 := cell_l vt 1 rfl; have e3 := cell_l vt 3 rfl
    have d13 := (row_cell vown 13 (modC_get13 B 512 1)).1
    have vl' := vl
    unfold loaderC at vl'
    have e4 := cell_l vl' 4 rfl; have e5 := cell_l vl' 5 rfl
    have lv3 := vv.size
    have ltV := lt_of_block vt
    have lgV := (ownsRow_lt vown).2.1
    have llV := lt_of_block vl
    have HV := Lib.hid (And.intro vo (And.intro vm (And.intro vsp (And.intro vl (And.intro vt vown)))))
    clear zo zm zsp zt zl zown vo vv vm vsp vown hV HZ c4 f4 vl' vl
    go_wp2
    rw [rounds_succ]
    go_wp2
    refine wp_loop_rounds 2 ?_
    rw [rounds_succ]
    go_wp2
    refine wp_loop_rounds 1 ?_
    rw [rounds_succ]
    go_wp2
    rw [rounds_succ]
    go_upto_region 23 with fail
    refine wp_region_facts [.val (.pointer (some ⟨t, 0, none⟩)), .val (.pointer (some ⟨t, 0, none⟩)), .val (.pointer (some ⟨t, 1, none⟩)), .val (.slice (some ⟨gt, 0, none⟩) 1 ct), .val (.int .i64 1), .val (.pointer (some ⟨t, 0, none⟩)), .val (.pointer (some ⟨t, 0, none⟩)), .val (.pointer (some ⟨t, 3, none⟩)), .val (.slice none 0 0), .more (fun v w' => ∃ g cap g7 c7, v = .slice (some ⟨g, 0, none⟩) 1 cap ∧ w'.ownsRow V.heap.size 31 1 (.slice (some ⟨g, 0, none⟩) 1 cap) 1 [.slice (some ⟨g7, 0, none⟩) 1 c7] ∧ w'.ownsRow V.heap.size 3 1 (.slice (some ⟨g7, 0, none⟩) 1 c7) 1 [.int .i64 0]) (fun v w' w'' hb h => by obtain ⟨g, cap, g7, c7, h1, h3, h4⟩ := h; exact ⟨g, cap, g7, c7, h1, ownsRow_below' h3 hb, ownsRow_below' h4 hb⟩), .val (.int .i64 1), .val (.int .i64 0)] (by kernel_rfl) (by kernel_rfl) ?_ ?_
    · simp only [stepsAll, List.take, List.length]
      refine ⟨?_, ?_, ?_, ?_, ?_, ?_, ?_, ?_, ?_, ?_, ?_, ?_, ?_⟩
      all_goals first | trivial | (intro a wr hb hf hd)
      all_goals have hf10 : a.tmps[(10 : Nat)]?.getD undef = .pointer (some ⟨t, 0, none⟩) := (hf 10 (by decide +kernel)).trans rfl
      · exact grow_tmp _ rfl ⟨hf10, fun h => by cases h⟩
      · have h109 : a.tmps[(109 : Nat)]?.getD undef = .pointer (some ⟨t, 0, none⟩) := hd 0 (by simp) (by kernel_rfl)
        exact grow_value (v := .pointer (some ⟨t, 0, none⟩)) (by simp [execOp, h109, go_sem]) (Below.refl _ _) ⟨rfl, fun h => by cases h⟩
      · have h110 : a.tmps[(110 : Nat)]?.getD undef = .pointer (some ⟨t, 0, none⟩) := hd 1 (by simp) (by kernel_rfl)
        exact grow_value (v := .pointer (some ⟨t, 1, none⟩)) (by simp [execOp, h110, go_sem]) (Below.refl _ _) ⟨rfl, fun h => by cases h⟩
      · have h111 : a.tmps[(111 : Nat)]?.getD undef = .pointer (some ⟨t, 1, none⟩) := hd 2 (by simp) (by kernel_rfl)
        have hc := cell_l ((hb.block _ (lt_of_block vt)).trans vt) 1 (rfl)
        exact grow_value (v := .slice (some ⟨gt, 0, none⟩) 1 ct) (by simp [execOp, h111, hc, go_sem]) (Below.refl _ _) ⟨rfl, fun h => by cases h⟩
      · have h112 : a.tmps[(112 : Nat)]?.getD undef = .slice (some ⟨gt, 0, none⟩) 1 ct := hd 3 (by simp) (by kernel_rfl)
        exact grow_value (v := .int .i64 1) (by simp [execOp, h112, go_sem]) (Below.refl _ _) ⟨rfl, fun h => by cases h⟩
      · exact grow_tmp _ rfl ⟨hf10, fun h => by cases h⟩
      · have h114 : a.tmps[(114 : Nat)]?.getD undef = .pointer (some ⟨t, 0, none⟩) := hd 5 (by simp) (by kernel_rfl)
        exact grow_value (v := .pointer (some ⟨t, 0, none⟩)) (by simp [execOp, h114, go_sem]) (Below.refl _ _) ⟨rfl, fun h => by cases h⟩
      · have h115 : a.tmps[(115 : Nat)]?.getD undef = .pointer (some ⟨t, 0, none⟩) := hd 6 (by simp) (by kernel_rfl)
        exact grow_value (v := .pointer (some ⟨t, 3, none⟩)) (by simp [execOp, h115, go_sem]) (Below.refl _ _) ⟨rfl, fun h => by cases h⟩
      · have h116 : a.tmps[(116 : Nat)]?.getD undef = .pointer (some ⟨t, 3, none⟩) := hd 7 (by simp) (by kernel_rfl)
        have hc := cell_l ((hb.block _ (lt_of_block vt)).trans vt) 3 (rfl)
        exact grow_value (v := .slice none 0 0) (by simp [execOp, h116, hc, go_sem]) (Below.refl _ _) ⟨rfl, fun h => by cases h⟩
      · have h113 : a.tmps[(113 : Nat)]?.getD undef = .int .i64 1 := hd 4 (by simp) (by kernel_rfl)
        have h117 : a.tmps[(117 : Nat)]?.getD undef = .slice none 0 0 := hd 8 (by simp) (by kernel_rfl)
        refine grow_call (f := 154) (args := #[.int .i64 1, .slice none 0 0]) (by simp [execOp, h113, h117, go_sem]) ?_
        refine (parts1 _).mono ?_
        rintro e w3 ⟨go, co, g7, c7, rfl, hb3, hown, hown2⟩
        exact ⟨_, rfl, hb3, ⟨go, co, g7, c7, rfl, ownsRow_lower hown hb.size, ownsRow_lower hown2 hb.size⟩, fun h => by cases h⟩
      · obtain ⟨g, cap, g7, c7, h118, _⟩ : ∃ g cap g7 c7, a.tmps[(118 : Nat)]?.getD undef = .slice (some ⟨g, 0, none⟩) 1 cap ∧ _ := hd 9 (by simp) (by kernel_rfl)
        exact grow_value (v := .int .i64 1) (by simp [execOp, h118, go_sem]) (Below.refl _ _) ⟨rfl, fun h => by cases h⟩
      · exact grow_value (v := .int .i64 0) (by simp [execOp, go_sem]) (Below.refl _ _) ⟨rfl, fun h => by cases h⟩
    · intro fp w4 hb4 hs hn hne
      have g109 : fp 109 = .pointer (some ⟨t, 0, none⟩) := hs 0 (by simp)
      have g110 : fp 110 = .pointer (some ⟨t, 0, none⟩) := hs 1 (by simp)
      have g111 : fp 111 = .pointer (some ⟨t, 1, none⟩) := hs 2 (by simp)
      have g112 : fp 112 = .slice (some ⟨gt, 0, none⟩) 1 ct := hs 3 (by simp)
      have g113 : fp 113 = .int .i64 1 := hs 4 (by simp)
      have g114 : fp 114 = .pointer (some ⟨t, 0, none⟩) := hs 5 (by simp)
      have g115 : fp 115 = .pointer (some ⟨t, 0, none⟩) := hs 6 (by simp)
      have g116 : fp 116 = .pointer (some ⟨t, 3, none⟩) := hs 7 (by simp)
      have g117 : fp 117 = .slice none 0 0 := hs 8 (by simp)
      have g119 : fp 119 = .int .i64 1 := hs 10 (by simp)
      have g120 : fp 120 = .int .i64 0 := hs 11 (by simp)
      obtain ⟨gp, cp, g7, c7, g118, hp, hp7⟩ : ∃ g cap g7 c7, fp 118 = .slice (some ⟨g, 0, none⟩) 1 cap ∧ w4.ownsRow V.heap.size 31 1 (.slice (some ⟨g, 0, none⟩) 1 cap) 1 [.slice (some ⟨g7, 0, none⟩) 1 c7] ∧ w4.ownsRow V.heap.size 3 1 (.slice (some ⟨g7, 0, none⟩) 1 c7) 1 [.int .i64 0] := hs 9 (by simp)
      rw [show (List.range (List.length _)).map (dstOf _) = [109, 110, 111, 112, 113, 114, 115, 116, 117, 118, 119, 120] from by kernel_rfl]
      simp only [actOf, List.foldl, Act.put, List.drop, List.length, g109, g110, g111, g112, g113, g114, g115, g116, g117, g119, g120, g118, List.setIfInBounds_toArray, List.set_cons_zero, List.set_cons_succ]
      clear hs hn hne g109 g110 g111 g112 g113 g114 g115 g116 g117 g119 g120 g118
      obtain ⟨vo, vm, vsp, vl, vt', vown⟩ := HV.out
      have xo := vo.call hb4
      have xl := (hb4.block _ (lt_of_block vl)).trans vl
      have xt := (hb4.block _ (lt_of_block vt)).trans vt
      have q0 := cell_l xt 0 rfl
      have qp := (row_cell hp 0 rfl).1
      have q7 := (row_cell hp7 0 rfl).1
      have lgp := (ownsRow_lt hp).2.1
      have lg7 := (ownsRow_lt hp7).2.1
      have lt4 := lt_of_block xt
      have HX := Lib.hid (And.intro xo (And.intro ((hb4.block _ (lt_of_block vm)).trans vm) (And.intro (vsp.below hb4) (And.intro xl (ownsRow_below' vown hb4)))))
      have l4 := hb4.size
      clear vo vm vsp vl vt' vown xo xl xt hb4 vt HV e0 e1 e3 e4 e5 d13 hp hp7
      go_wp2
      refine wp_loop_rounds 2 ?_
      rw [rounds_succ]
      go_wp2
      refine wp_loop_rounds 2 ?_
      rw [rounds_succ]
      go_wp2_with (at_builtin; refine wpList_append_nil rfl (.tmp 130) (.tmp 137) 31 3 (.int .i64 0) 1 8 rfl Tryz.underlying31 infoc_ints rfl (by omega) w4.heap.size 1 [.int .i64 0] rfl rfl (heap_alloc_new _ _) rfl (by simp [Value.oneCell']) (by omega) (w4.heap.size + 1) (by simp) ?_; intro cap5 w5 hown5 hb5; have H5 := Lib.hid (And.intro hown5 (hb5.mono (Nat.le_succ w4.heap.size))); clear hown5 hb5)
      obtain ⟨hown5, hb5⟩ := H5.out
      have hB5 : Below w4.heap.size w4 w5 := ((Below.refl _ w4).alloc (Nat.le_refl _) _).trans hb5
      have yl := (hB5.block _ (lt_of_block HX.out.2.2.2.1)).trans HX.out.2.2.2.1
      unfold loaderC at yl
      have p5 := cell_l yl 5 rfl
      have HY := Lib.hid (And.intro hB5 hown5)
      have l5 := hB5.size
      clear hown5 hb5 hB5 H5 yl q0 qp q7
      rw [rounds_succ]
      go_wp2
      rw [rounds_succ]
      go_upto_region 32 with fail
      obtain ⟨i0, hi, hz0, hz1, hz2⟩ := info_parts infoc_ints
      have HI := Lib.hid (And.intro hi (And.intro hz0 (And.intro hz1 hz2)))
      clear hi hz0 hz1 hz2
      go_wp2_with (first
        | (go_at_call 27; refine (clip_ints_nil _).mono ?_; rintro e wz ⟨rfl, hwz⟩; rw [hwz]; clear hwz wz)
        | (at_builtin; refine wpList_append_lies _ rfl (.tmp 146) (.tmp 147) 31 rfl w4.heap.size 3 i0 (.int .i64 0) 1 8 Tryz.underlying31 HI.out.1 HI.out.2.1 HI.out.2.2.1 HI.out.2.2.2 rfl (by omega) (.slice none 0 0) 0 [] rfl (World.ownsRow_nil _ _ _ _) ⟨w4.heap.size + 1, 0, none⟩ 1 cap5 [.int .i64 0] rfl rfl (HY.out.2.cells rfl) (by simp [Value.oneCell']) (by omega) (by unfold maxLen; omega) (by omega) (by omega) w5.heap.size rfl ?_;
           intro g6 cap6 w6 hown6 hgrow hat hlt6
           have hb6 : Below w5.heap.size w5 w6 := ⟨hgrow.os, hgrow.tape, hgrow.output, hgrow.size, fun k hk => hgrow.block k hk (by simp [Value.ownBlock])⟩
           have yl := ((HY.out.1.trans (hb6.mono l5)).block _ (lt_of_block HX.out.2.2.2.1)).trans HX.out.2.2.2.1
           unfold loaderC at yl
           have r5 := cell_l yl 5 rfl
           have s5 := free_in yl 5
           have lg6 : w4.heap.size ≤ g6 := (ownsRow_lt hown6).1
           have H6 := Lib.hid (And.intro hb6 (And.intro yl hown6))
           clear hb6 yl hown6 hgrow hat))
      go_ret2
      obtain ⟨xo, xm, xsp, xl, xown⟩ := HX.out
      obtain ⟨hB5, hown5⟩ := HY.out
      obtain ⟨hb6, yl, hown6⟩ := H6.out
      have hB : Below w4.heap.size w4 w6 := hB5.trans (hb6.mono l5)
      have hs : Only (· = l) w6 (w6.setCell ⟨l, 5, none⟩ (.slice (some ⟨g6, 0, none⟩) 1 cap6)) := (Only.refl _ _).setCell _ _ (.inl rfl)
      have llw4 := lt_of_block xl
      have hg6 := HG.out
      have hm6 := (hB.block _ (lt_of_block xm)).trans xm
      refine ⟨w4.heap.size + 1, cap5, gm, cm, g6, cap6, rfl, (xo.call hB).then hs (by rintro k _ h; exact .inl h), block_set yl 5 _, ?_, ?_, ?_, hs.kept hm6 (fun h => HG.out.2.2.2.2 h.symm), g, cap, b1, b2, ?_, ?_, ?_, ?_⟩
      · exact ownsRow_kept (ownsRow_below' (ownsRow_lower xown (by omega)) hB) hs ngl
      · exact ownsRow_kept (ownsRow_lower hown6 (by omega)) hs (show ¬ g6 = l by omega)
      · exact ownsRow_kept (ownsRow_below' (ownsRow_lower hown5 (by omega)) hb6) hs (show ¬ w4.heap.size + 1 = l by omega)
      · refine (xsp.below hB).kept hs ?_
        rintro k hk (rfl : k = l)
        rcases hk with h | h | ⟨p, hp, h⟩
        · exact hg6.2.2.2.1 h
        · simp [Value.ownBlock] at h; omega
        · simp at hp; rcases hp with rfl | rfl <;> simp [codeP, dataP, newPart, Part.put] at h <;> omega
      · omega
      · omega
      · omega
end Go.Proofs.YtkbilipgidcgeaaGreatDoor.Tiny

namespace Go.Proofs.YtkbilipgidcgeaaGreatDoor.Tiny
open Go.RowKit Go.ChangeMaps
attribute [local go_sem] ext_cell ext_frozen run_store_func mk_ints0 mk_ints1 mk_ints2 mk_lists0 mk_lists1 mk_lists2 ta_ints run_makeMap
attribute [local irreducible] labCells modC

theorem linits1 (B : ByteArray) (w : World) : Calls Tryz.prog 156 #[.agg (labCells B)] w fun e w' => e = .returned (.slice none 0 0) ∧ Below w.heap.size w w' := by
  have hg := heap_alloc_new w (.cells (labCells B) 45)
  have c14 := cell_in (v := .slice none 0 0) hg 14 (by unfold labCells; rfl)
  clear hg
  go_enter Tryz.func156, Tryz.ntmps156
  go_wp2
  go_ret
  exact ⟨rfl, by go_grown⟩

theorem img_range {w : World} {base g cap : Nat} {B : ByteArray} {x y : Int} (h : w.ownsRow base 91 32 (.slice (some ⟨g, 0, none⟩) 1 cap) 1 (modC B x y)) : w.rangeAt g 0 (labCells B).toList := fun j v hv => by
  rw [Nat.zero_add]; exact (row_cell h j (modC_img B x y j v hv)).1

set_option maxRecDepth 100000 in
set_option maxHeartbeats 1000000 in
theorem lfunctions (l s b st gm cm go co : Nat) (ord : Value) (B : ByteArray) (w : World) (hl : w.heap[l]? = some (.cells (loaderC s b st (.slice (some ⟨gm, 0, none⟩) 1 cm) ord).toArray 149 (0, 0)))
    (hm : w.ownsRow 0 91 32 (.slice (some ⟨gm, 0, none⟩) 1 cm) 1 (modC B 512 1)) (ho : w.ownsRow 0 3 1 (.slice (some ⟨go, 0, none⟩) 1 co) 1 [.int .i64 0]) :
    Calls Tryz.prog 155 #[.pointer (some ⟨l, 0, none⟩), .slice (some ⟨go, 0, none⟩) 1 co, .func (.func 156) #[] #[]] w fun e w' => e = .returned (.slice none 0 0) ∧ Below w.heap.size w w' := by
  have ll := lt_of_block hl
  unfold loaderC at hl
  have c4 := cell_l hl 4 rfl
  have q0 := (row_cell ho 0 rfl).1
  have HM := Lib.hid hm
  have lg := (ownsRow_lt hm).2.1
  have lgo := (ownsRow_lt ho).2.1
  clear hl hm ho
  go_enter Tryz.func155, Tryz.ntmps155
  go_wp2
  refine wp_loop_rounds 2 ?_
  rw [rounds_succ]
  go_wp2_with (first
    | (refine wpList_load_mid rfl 45 (.tmp 25) rfl gm 0 rfl (labCells B).toList _ (img_range HM.out) Tryz.underlying45 rfl (lab_info B) ?_)
    | (go_at_call 156; refine (linits1 B _).mono ?_; rintro e w1 ⟨rfl, hb1⟩; have H1 := Lib.hid hb1; clear hb1))
  refine wp_loop_rounds 1 ?_
  rw [rounds_succ]
  go_wp2
  rw [rounds_succ]
  go_wp2
  go_ret
  exact ⟨rfl, H1.out⟩

theorem linits (l s b st gm cm go co : Nat) (ord : Value) (B : ByteArray) (w : World) (hl : w.heap[l]? = some (.cells (loaderC s b st (.slice (some ⟨gm, 0, none⟩) 1 cm) ord).toArray 149 (0, 0)))
    (hm : w.ownsRow 0 91 32 (.slice (some ⟨gm, 0, none⟩) 1 cm) 1 (modC B 512 1)) (ho : w.ownsRow 0 3 1 (.slice (some ⟨go, 0, none⟩) 1 co) 1 [.int .i64 0]) :
    Calls Tryz.prog 65 #[.pointer (some ⟨l, 0, none⟩), .slice (some ⟨go, 0, none⟩) 1 co] w fun e w' => e = .returned (.slice none 0 0) ∧ Below w.heap.size w w' := by
  have HM := Lib.hid (And.intro hl (And.intro hm ho))
  clear hl hm ho
  go_enter Tryz.func65, Tryz.ntmps65
  go_wp2_with (go_at_call 155; refine (lfunctions l s b st gm cm go co ord B _ HM.out.1 HM.out.2.1 HM.out.2.2).mono ?_; rintro e w1 ⟨rfl, hb1⟩; have H1 := Lib.hid hb1; clear hb1)
  go_ret
  exact ⟨rfl, H1.out⟩

/-- What Start leaves. -/
structure Loaded (L : List UInt8) (B : ByteArray) (l s b st mo : Nat) (N : Nat) (w : World) (gm cm gq cq g cap b1 b2 : Nat) : Prop where
  head : w.heap[l]? = some (.cells (loaderC s b st (.slice (some ⟨gm, 0, none⟩) 1 cm) (.slice (some ⟨gq, 0, none⟩) 1 cq)).toArray 149 (0, 0))
  mods : w.ownsRow N 91 32 (.slice (some ⟨gm, 0, none⟩) 1 cm) 1 (modC B 512 1)
  order : w.ownsRow N 3 1 (.slice (some ⟨gq, 0, none⟩) 1 cq) 1 [.int .i64 0]
  known : w.heap[mo]? = some (.map #[⟨.int .i64 0, .agg (labCells B), 0⟩] 1)
  space : SpaceAt w s (.slice (some ⟨g, 0, none⟩) 2 cap) [codeP L b1, dataP L b2]
  new0 : N ≤ g
  new1 : N ≤ b1
  new2 : N ≤ b2

set_option maxRecDepth 100000 in
set_option maxHeartbeats 1000000 in
theorem lstart (l s b st mo th at_ : Nat) (L : List UInt8) (B : ByteArray) (hB : B = ⟨L.toArray⟩) (hL : L.length = 256) (w : World) (hl : w.heap[l]? = some (.cells (loaderC s b st (.slice none 0 0) (.slice none 0 0)).toArray 149 (0, 0)))
    (hs : w.heap[st]? = some (.map #[⟨.string labS, .agg (labCells B), 0⟩] 1)) (hsp : SpaceAt w s (.slice none 0 0) [])
    (hbb : w.heap[b]? = some (.cells (blocksC s mo th at_).toArray 146 (0, 0))) (hmo : w.heap[mo]? = some (.map #[] 0)) (hth : w.heap[th]? = some (.map #[] 0)) (nmt : mo ≠ th) :
    Calls Tryz.prog 24 #[.pointer (some ⟨l, 0, none⟩), .string labS] w fun e w' => e = .returned (.tuple #[.slice none 0 0, .int .i64 0]) ∧
      Only (fun k => k = l ∨ k = s ∨ k = mo) w w' ∧ ∃ gm cm gq cq g cap b1 b2, Loaded L B l s b st mo w.heap.size w' gm cm gq cq g cap b1 b2 := by
  have HH := Lib.hid (And.intro hl (And.intro hs (And.intro hsp (And.intro hbb (And.intro hmo (And.intro hth nmt))))))
  have HB := Lib.hid (And.intro hB hL)
  have ll := lt_of_block hl
  unfold loaderC at hl
  have c4 := cell_l hl 4 rfl
  clear hB hL hl hs hsp hbb hmo hth nmt
  go_enter Tryz.func24, Tryz.ntmps24
  go_wp2_with (first
    | (go_at_call 64; refine (lload l s b st mo th at_ L B HB.out.1 HB.out.2 _ HH.out.1 HH.out.2.1 HH.out.2.2.1 HH.out.2.2.2.1 HH.out.2.2.2.2.1 HH.out.2.2.2.2.2.1 HH.out.2.2.2.2.2.2).mono ?_
       rintro e w1 ⟨go, co, gm, cm, gq, cq, rfl, ho1, hl1, hown1, hq1, hgo1, hm1, g, cap, b1, b2, hsp1, lg, lb1, lb2⟩
       have H1 := Lib.hid (And.intro ho1 (And.intro hl1 (And.intro hown1 (And.intro hq1 (And.intro hgo1 (And.intro hm1 (And.intro hsp1 (And.intro lg (And.intro lb1 lb2)))))))))
       clear ho1 hl1 hown1 hq1 hgo1 hm1 hsp1 lg lb1 lb2)
    | (go_at_call 65; refine (linits l s b st gm cm go co (.slice (some ⟨gq, 0, none⟩) 1 cq) B _ H1.out.2.1 (ownsRow_lower H1.out.2.2.1 (Nat.zero_le _)) (ownsRow_lower H1.out.2.2.2.2.1 (Nat.zero_le _))).mono ?_; rintro e w2 ⟨rfl, hb2⟩; have H2 := Lib.hid hb2; clear hb2))
  go_ret2
  obtain ⟨ho1, hl1, hown1, hq1, hgo1, hm1, hsp1, lg, lb1, lb2⟩ := H1.out
  have hb2 := H2.out
  exact ⟨rfl, ho1.call hb2, gm, cm, gq, cq, g, cap, b1, b2, ⟨(hb2.block _ (lt_of_block hl1)).trans hl1, ownsRow_below' hown1 hb2, ownsRow_below' hq1 hb2, (hb2.block _ (lt_of_block hm1)).trans hm1, hsp1.below hb2, lg, lb1, lb2⟩⟩

set_option maxRecDepth 100000 in
theorem lmods (l s b st gm cm : Nat) (ord : Value) (B : ByteArray) (w : World) (hl : w.heap[l]? = some (.cells (loaderC s b st (.slice (some ⟨gm, 0, none⟩) 1 cm) ord).toArray 149 (0, 0)))
    (hm : w.ownsRow 0 91 32 (.slice (some ⟨gm, 0, none⟩) 1 cm) 1 (modC B 512 1)) :
    Calls Tryz.prog 26 #[.pointer (some ⟨l, 0, none⟩)] w fun e w' => Below w.heap.size w w' ∧ ∃ g c, e = .returned (.slice (some ⟨g, 0, none⟩) 1 c) ∧ w'.ownsRow w.heap.size 91 32 (.slice (some ⟨g, 0, none⟩) 1 c) 1 (modC B 512 1) := by
  have HM := Lib.hid hm
  have ll := lt_of_block hl
  unfold loaderC at hl
  have c4 := cell_l hl 4 rfl
  clear hl hm
  go_enter Tryz.func26, Tryz.ntmps26
  go_wp2_with (go_at_call 71; refine (clone_mods gm 1 cm (modC B 512 1) _ (fun j u hj => (row_cell HM.out j hj).1) (modC_len B 512 1) (modC_one B 512 1) (by omega) (by omega) (ownsRow_lt HM.out).2.1).mono ?_; rintro e w1 ⟨hb1, g, c, rfl, hown1⟩; have H1 := Lib.hid (And.intro hb1 hown1); clear hb1 hown1)
  go_ret
  exact ⟨H1.out.1, g, c, rfl, H1.out.2⟩
end Go.Proofs.YtkbilipgidcgeaaGreatDoor.Tiny

namespace Go.Proofs.YtkbilipgidcgeaaGreatDoor
open Go.RowKit Go.ChangeMaps
theorem ne_of_objT {w : World} {b c : Nat} {o o' : Obj} (h : w.heap[b]? = some o) (k : w.heap[c]? = some o') (hne : o ≠ o') : b ≠ c := fun e => by subst e; rw [h] at k; exact hne (Option.some.inj k)
theorem Only.transT {S T : Nat → Prop} {w w1 w2 : World} (h : Only S w w1) (k : Only T w1 w2) : Only (fun b => S b ∨ T b) w w2 := (h.mono (fun _ _ h => .inl h)).trans (k.mono (fun _ _ h => .inr h))
theorem SpaceAt.notCells {w : World} {s : Nat} {pv : Value} {ps : List Part} (h : SpaceAt w s pv ps) {b : Nat} {l : Array Value} {t : TypeId} {f : Nat × Nat} (hb : w.heap[b]? = some (.cells l t f))
    (h1 : t ≠ 141) (h2 : t ≠ 107) (h3 : t ≠ 5) : ¬ spaceFoot s pv ps b := by
  rintro (k | k | ⟨p, hp, k⟩)
  · exact block_ne hb h.head h1 k
  · obtain ⟨cur, hc⟩ := ownsRow_block h.row _ k
    exact block_ne hb hc h2 rfl
  · obtain ⟨_, _, cur, hc, _⟩ := h.bytes.2 p hp
    exact block_ne hb hc h3 k.symm
theorem SpaceAt.notMap {w : World} {s : Nat} {pv : Value} {ps : List Part} (h : SpaceAt w s pv ps) {b : Nat} {y : Array MapEntry} {c : Nat} (hb : w.heap[b]? = some (.map y c)) : ¬ spaceFoot s pv ps b := by
  rintro (k | k | ⟨p, hp, k⟩)
  · exact ne_of_objT hb h.head (by simp) k
  · obtain ⟨cur, hc⟩ := ownsRow_block h.row _ k
    exact ne_of_objT hb hc (by simp) rfl
  · obtain ⟨_, _, cur, hc, _⟩ := h.bytes.2 p hp
    exact ne_of_objT hb hc (by simp) k.symm
end Go.Proofs.YtkbilipgidcgeaaGreatDoor
namespace Go.Proofs.YtkbilipgidcgeaaGreatDoor.Tiny
open Go.RowKit Go.ChangeMaps
attribute [local go_sem] ext_cell ext_frozen run_store_func mk_ints0 mk_ints1 mk_ints2 mk_lists0 mk_lists1 mk_lists2 ta_ints run_makeMap
attribute [local irreducible] labCells modC

def procC (s b l : Nat) (th : Value) : List Value := [.pointer (some ⟨s, 0, none⟩), .pointer (some ⟨b, 0, none⟩), .pointer (some ⟨l, 0, none⟩), th, .slice none 0 0, .slice none 0 0, .bool false, .bool false]
def threadC (sp : Int) (calls : Value) : List Value := [.int .i64 0, .int .i64 0, .int .i64 0, .int .i64 0, .int .i64 0, .int .i64 0, .int .i64 0, .int .i64 0, .int .i64 0, .int .i64 0, .int .i64 0, .int .i64 0, .int .i64 0, .int .i64 0, .int .i64 0, .int .i64 sp,
  .int .i64 0, .int .i64 0, .int .i64 0, .int .i64 1280, .int .i64 1024, calls, .slice none 0 0]
def stackP (b : Nat) : Part := newPart 1280 1024 2 0 0 b
theorem areas_cd (L : List UInt8) (b1 b2 : Nat) : AreasOk [codeP L b1, dataP L b2] :=
  ((areas_two b1 b2).put 0 (by simp) 512 (L.take 256)).put 1 (by simp) 768 (L.drop 256)
theorem ne_of_obj {w : World} {b c : Nat} {o o' : Obj} (h : w.heap[b]? = some o) (k : w.heap[c]? = some o') (hne : o ≠ o') : b ≠ c := fun e => by subst e; rw [h] at k; exact hne (Option.some.inj k)
theorem end_cd (L : List UInt8) (b1 b2 : Nat) : ∀ p ∈ [codeP L b1, dataP L b2], p.at_ + p.size ≤ 1280 := by
  intro p hp
  simp only [List.mem_cons, List.not_mem_nil, or_false] at hp
  rcases hp with rfl | rfl
  · show (512 : Int) + 256 ≤ 1280; decide
  · show (768 : Int) + 256 ≤ 1280; decide
theorem free2 (L : List UInt8) (b1 b2 : Nat) : freeI [codeP L b1, dataP L b2] 1024 = 1280 := by kernel_rfl

theorem buildSlice_thread (t : Tmp) (x : Int) (c : Value) (o : Oper) (a : Act) (w : World) (ho : o.op = .buildSlice 79 1 #[(0, .tmp t)]) (ht : a.tmps[t]?.getD undef = .agg (threadC x c).toArray) :
    (execOp a.eval o).run Tryz.prog w = .ok (.value (sl 1 w.heap.size)) (w.alloc (.cells (threadC x c).toArray 100)) := by
  unfold threadC at *
  unfold sl
  simp [execOp, ho, ht, go_sem]

set_option maxRecDepth 100000 in
set_option maxHeartbeats 2000000 in
theorem pspawn (p s b l mo th at_ g cap b1 b2 : Nat) (L : List UInt8) (B : ByteArray) (w : World) (hp : w.heap[p]? = some (.cells (procC s b l (.slice none 0 0)).toArray 81 (0, 0)))
    (hsp : SpaceAt w s (.slice (some ⟨g, 0, none⟩) 2 cap) [codeP L b1, dataP L b2]) (hbb : w.heap[b]? = some (.cells (blocksC s mo th at_).toArray 146 (0, 0)))
    (hmo : w.heap[mo]? = some (.map #[⟨.int .i64 0, .agg (labCells B), 0⟩] 1)) (hth : w.heap[th]? = some (.map #[] 0)) (hat : w.heap[at_]? = some (.map #[] 0)) (nat_ : at_ ≠ th) :
    Calls Tryz.prog 25 #[.pointer (some ⟨p, 0, none⟩), .int .i64 0, .int .i64 0] w fun e w' => e = .returned (.tuple #[.int .i64 0, .bool true]) ∧
      Only (fun k => k = p ∨ k = s ∨ k = g ∨ k = th) w w' ∧ ∃ gt ct g' cap' b3, w'.heap[p]? = some (.cells (procC s b l (.slice (some ⟨gt, 0, none⟩) 1 ct)).toArray 81 (0, 0)) ∧
      w'.ownsRow w.heap.size 100 23 (.slice (some ⟨gt, 0, none⟩) 1 ct) 1 (threadC 2296 (.slice none 0 0)) ∧ w'.heap[th]? = some (.map #[⟨.int .i64 0, .bool true, 0⟩] 1) ∧
      SpaceAt w' s (.slice (some ⟨g', 0, none⟩) 3 cap') [codeP L b1, dataP L b2, stackP b3] ∧ (g' = g ∨ w.heap.size ≤ g') ∧ w.heap.size ≤ b3 := by
  have lp := lt_of_block hp
  have HP := Lib.hid hp
  have HH := Lib.hid (And.intro hsp (And.intro hbb (And.intro hmo (And.intro hth (And.intro hat nat_)))))
  unfold procC at hp
  have c0 := cell_l hp 0 rfl; have c3 := cell_l hp 3 rfl
  clear hp hsp hbb hmo hth hat nat_
  go_enter Tryz.func25, Tryz.ntmps25
  go_wp2_with fail
  refine (free_row s g cap [codeP L b1, dataP L b2] 1024 _ (areas_cd L b1 b2) HH.out.1 (by omega) (by omega)).mono ?_
  rintro e w1 ⟨rfl, hb1⟩
  rw [free2]
  have kp := (hb1.block _ (lt_of_block HP.out)).trans HP.out
  unfold procC at kp
  have d0 := cell_l kp 0 rfl
  have lp1 := lt_of_block kp
  have H1 := Lib.hid hb1
  clear hb1 kp c0 c3
  go_wp2_with fail
  refine (map_row s g cap [codeP L b1, dataP L b2] 1280 1024 2 0 0 _ (areas_cd L b1 b2) (HH.out.1.below H1.out) (by omega) (by omega) (by decide) (by omega) (by omega) (by omega) (by omega) (by omega) (by simp) (by simp) (end_cd L b1 b2)).mono ?_
  rintro e w2 ⟨rfl, ho2, pv2, b3, hsp2, lb3, hpv2⟩
  obtain ⟨g', cap', rfl, _⟩ := hsp2.parts (by simp)
  obtain ⟨hsp, hbb, hmo, hth, hat, nat_⟩ := HH.out
  have hp := HP.out
  obtain ⟨_, lg, cur, hg⟩ := ownsRow_lt hsp.row
  have np : ¬ (p = s ∨ Value.ownBlock (.slice (some ⟨g, 0, none⟩) 2 cap) = some p) := by
    rintro (h | h); exact block_ne hp hsp.head (by decide) h; simp [Value.ownBlock] at h; exact block_ne hp hg (by decide) h.symm
  have nb : ¬ (b = s ∨ Value.ownBlock (.slice (some ⟨g, 0, none⟩) 2 cap) = some b) := by
    rintro (h | h); exact block_ne hbb hsp.head (by decide) h; simp [Value.ownBlock] at h; exact block_ne hbb hg (by decide) h.symm
  have nm : ∀ k y c, w.heap[k]? = some (.map y c) → ¬ (k = s ∨ Value.ownBlock (.slice (some ⟨g, 0, none⟩) 2 cap) = some k) := by
    rintro k y c hk (h | h); exact ne_of_obj hk hsp.head (by simp) h; simp [Value.ownBlock] at h; exact ne_of_obj hk hg (by simp) h.symm
  have npm : ∀ k y c, w.heap[k]? = some (.map y c) → p ≠ k := fun k y c hk => ne_of_obj hp hk (by simp)
  have nbm : ∀ k y c, w.heap[k]? = some (.map y c) → b ≠ k := fun k y c hk => ne_of_obj hbb hk (by simp)
  have x1 := (Only.of_below (S := fun k => k = s ∨ Value.ownBlock (.slice (some ⟨g, 0, none⟩) 2 cap) = some k) H1.out).trans ho2
  have xp := x1.kept hp np
  have xb := x1.kept hbb nb
  have xm := x1.kept hmo (nm _ _ _ hmo)
  have xt := x1.kept hth (nm _ _ _ hth)
  have xa := x1.kept hat (nm _ _ _ hat)
  have l2 := x1.size
  have lg' : g' = g ∨ w.heap.size ≤ g' := by
    have := H1.out.size
    rcases hpv2 with h | ⟨q, h, hq⟩
    · simp [Value.ownBlock] at h; exact .inl h
    · simp [Value.ownBlock] at h; right; omega
  have lb3' : w.heap.size ≤ b3 := Nat.le_trans H1.out.size lb3
  have ntp : th ≠ p := fun h => npm th _ _ hth h.symm
  have HN := Lib.hid (And.intro (npm th _ _ hth) (And.intro (npm at_ _ _ hat) (And.intro (nbm th _ _ hth) (And.intro (nm _ _ _ hth) lb3'))))
  have H2 := Lib.hid (And.intro x1 (And.intro xp (And.intro xb (And.intro xm (And.intro xt (And.intro xa hsp2))))))
  unfold procC at xp
  have d1 := cell_l xp 1 rfl
  have lp2 := lt_of_block xp
  clear hsp hbb hmo hth hat hp hg np nb nm npm nbm x1 xp xb xm xt xa hsp2 ho2 lb3 hpv2 d0 lb3' ntp lg
  go_wp2_with fail
  refine (tthread b s mo th at_ B _ H2.out.2.2.1 H2.out.2.2.2.1 H2.out.2.2.2.2.1).mono ?_
  rintro e w3 ⟨rfl, ho3, ht3⟩
  obtain ⟨x1, xp, xb, xm, xt, xa, xsp⟩ := H2.out
  have yp := ho3.kept xp HN.out.1
  have yb := ho3.kept xb HN.out.2.2.1
  have ya := ho3.kept xa nat_
  have ysp := xsp.kept ho3 (by
    rintro k hk (rfl : k = th)
    have := lt_of_block HH.out.2.2.2.1
    rcases hk with h | h | ⟨q, hq, h⟩
    · exact HN.out.2.2.2.1 (.inl h)
    · simp [Value.ownBlock] at h
      rcases lg' with h' | h'
      · exact HN.out.2.2.2.1 (.inr (by simp [Value.ownBlock]; omega))
      · omega
    · obtain ⟨_, _, cur, hcur, _⟩ := xsp.bytes.2 q hq
      rw [h] at hcur
      rw [xt] at hcur
      simp at hcur)
  have H3 := Lib.hid (And.intro (x1.transT ho3) (And.intro yp (And.intro yb (And.intro ht3 (And.intro ya ysp)))))
  have l3 := ho3.size
  clear x1 xp xb xm xt xa xsp ho3 ht3 yp yb ya ysp d1 H2 lp2 nat_
  go_upto_region 10 with (((with_reducible refine at_store_law ?_); refine wpList_store_row rfl _ _ _ rfl _ _ rfl rfl _ _ (by (repeat (first | assumption | exact heap_alloc_new _ _ | refine block_old ?_ | refine block_drew ?_ | apply setRow_heap | (refine (setRow_other _ _ _ _ ?_).trans ?_; omega)))) (by kernel_rfl) (by rfl) (by simp [Value.oneCell']) ?_; (try simp only [World.setRow_alloc_new])))
  refine name_world fun V hV => ?_
  have vB : Below w3.heap.size w3 V := by rw [← hV]; go_grown
  have vx : V.heap[w3.heap.size]? = some (.cells (threadC 0 (.slice none 0 0)).toArray 100 (0, 0)) := by rw [← hV]; exact heap_alloc_new _ _
  obtain ⟨x1, yp, yb, yt, ya, ysp⟩ := H3.out
  have vp := (vB.block _ (lt_of_block yp)).trans yp
  have vb := (vB.block _ (lt_of_block yb)).trans yb
  have va := (vB.block _ (lt_of_block ya)).trans ya
  have HV := Lib.hid (And.intro (x1.call vB) (And.intro vp (And.intro vb (And.intro ((vB.block _ (lt_of_block yt)).trans yt) (And.intro va (And.intro (ysp.below vB) vx))))))
  have vp' := vp
  unfold procC at vp'
  have d1 := cell_l vp' 1 rfl
  have vx' := vx
  unfold threadC at vx'
  have e14 := cell_l vx' 14 rfl; have f14 := free_in vx' 14; have e15 := cell_l vx' 15 rfl; have f15 := free_in vx' 15
  have lv := vB.size
  have lxv := lt_of_block vx
  have lpv := lt_of_block vp
  clear hV vB vx x1 yp yb yt ya ysp vp vb va vp' vx' H3
  go_upto_region 12 with (go_at_call 70; refine (tat b s mo th at_ 0 0 0 _ HV.out.2.2.1 HV.out.2.2.2.2.1).mono ?_; rintro e wz ⟨rfl, hwz⟩; rw [← hwz]; clear hwz wz)
  refine name_world fun X hX => ?_
  obtain ⟨vo, vp, vb, vt, va, vsp, vx⟩ := HV.out
  have npx : p ≠ w3.heap.size := by omega
  have xv : Only (· = w3.heap.size) V X := by rw [← hX]; exact ((Only.refl (· = w3.heap.size) V).setCell ⟨w3.heap.size, 14, none⟩ _ (.inl rfl)).setCell ⟨w3.heap.size, 15, none⟩ _ (.inl rfl)
  have xx : X.heap[w3.heap.size]? = some (.cells (threadC 2296 (.slice none 0 0)).toArray 100 (0, 0)) := by rw [← hX]; exact block_set (block_set vx 14 _) 15 _
  have xp := xv.kept vp npx
  have HX := Lib.hid (And.intro xv (And.intro xx xp))
  unfold procC at xp
  have lxs := xv.size
  clear hX vo vp vb vt va vsp vx d1 e14 f14 e15 f15 xv
  refine wp_region_facts [.val (.pointer (some ⟨p, 0, none⟩)), .val (.pointer (some ⟨p, 0, none⟩)), .val (.pointer (some ⟨p, 0, none⟩)), .val (.pointer (some ⟨p, 3, none⟩)), .val (.slice none 0 0), .val (.agg ((threadC 2296 (.slice none 0 0)).toArray)), .blk (sl 1) (.cells (threadC 2296 (.slice none 0 0)).toArray 100 (0, 0)), .more (fun v w' => ∃ g cap, v = .slice (some ⟨g, 0, none⟩) 1 cap ∧ w'.ownsRow X.heap.size 100 23 (.slice (some ⟨g, 0, none⟩) 1 cap) 1 (threadC 2296 (.slice none 0 0))) (fun v w' w'' hb h => by obtain ⟨g, cap, h1, h3⟩ := h; exact ⟨g, cap, h1, ownsRow_below' h3 hb⟩), .val (.pointer (some ⟨p, 0, none⟩)), .val (.pointer (some ⟨p, 3, none⟩))] (by kernel_rfl) (by kernel_rfl) ?_ ?_
  · simp only [stepsAll, List.take, List.length]
    refine ⟨?_, ?_, ?_, ?_, ?_, ?_, ?_, ?_, ?_, ?_, ?_⟩
    all_goals first | trivial | (intro a wr hb hf hd)
    all_goals have hf0 : a.tmps[(0 : Nat)]?.getD undef = .pointer (some ⟨p, 0, none⟩) := (hf 0 (by decide +kernel)).trans rfl
    all_goals have hf10 : a.tmps[(10 : Nat)]?.getD undef = .pointer (some ⟨w3.heap.size, 0, none⟩) := (hf 10 (by decide +kernel)).trans rfl
    · exact grow_tmp _ rfl ⟨hf0, fun h => by cases h⟩
    · exact grow_tmp _ rfl ⟨hf0, fun h => by cases h⟩
    · have h72 : a.tmps[(72 : Nat)]?.getD undef = .pointer (some ⟨p, 0, none⟩) := hd 1 (by simp) (by kernel_rfl)
      exact grow_value (v := .pointer (some ⟨p, 0, none⟩)) (by simp [execOp, h72, go_sem]) (Below.refl _ _) ⟨rfl, fun h => by cases h⟩
    · have h73 : a.tmps[(73 : Nat)]?.getD undef = .pointer (some ⟨p, 0, none⟩) := hd 2 (by simp) (by kernel_rfl)
      exact grow_value (v := .pointer (some ⟨p, 3, none⟩)) (by simp [execOp, h73, go_sem]) (Below.refl _ _) ⟨rfl, fun h => by cases h⟩
    · have h74 : a.tmps[(74 : Nat)]?.getD undef = .pointer (some ⟨p, 3, none⟩) := hd 3 (by simp) (by kernel_rfl)
      have hc := cell_l ((hb.block _ (lt_of_block xp)).trans xp) 3 (rfl)
      exact grow_value (v := .slice none 0 0) (by simp [execOp, h74, hc, go_sem]) (Below.refl _ _) ⟨rfl, fun h => by cases h⟩
    · exact grow_load_row 10 100 rfl w3.heap.size hf10 _ _ _ _ ((hb.block _ (lt_of_block xx)).trans xx) Tryz.underlying100 rfl (by kernel_rfl) ⟨rfl, fun h => by cases h⟩
    · have h76 : a.tmps[(76 : Nat)]?.getD undef = .agg (threadC 2296 (.slice none 0 0)).toArray := hd 5 (by simp) (by kernel_rfl)
      exact grow_value (buildSlice_thread 76 _ _ _ _ _ rfl h76) ((Below.refl _ _).alloc (Nat.le_refl _) _) ⟨⟨_, rfl, heap_alloc_new _ _⟩, fun _ b hb => new_slice hb⟩
    · have h75 : a.tmps[(75 : Nat)]?.getD undef = .slice none 0 0 := hd 4 (by simp) (by kernel_rfl)
      obtain ⟨q, h77, hq⟩ : ∃ q, a.tmps[(77 : Nat)]?.getD undef = sl 1 q ∧ wr.heap[q]? = some (.cells (threadC 2296 (.slice none 0 0)).toArray 100 (0, 0)) := hd 6 (by simp) (by kernel_rfl)
      refine grow_append_nil 75 77 79 100 _ 23 216 rfl Tryz.underlying79 infoc_threads rfl (by omega) q 1 (threadC 2296 (.slice none 0 0)) h75 h77 hq rfl (by simp [threadC, Value.oneCell']) (by omega) ?_
      intro cap w' ho hb'
      exact ⟨⟨_, cap, rfl, ownsRow_lower ho hb.size⟩, fun h => by cases h⟩
    · have h71 : a.tmps[(71 : Nat)]?.getD undef = .pointer (some ⟨p, 0, none⟩) := hd 0 (by simp) (by kernel_rfl)
      exact grow_value (v := .pointer (some ⟨p, 0, none⟩)) (by simp [execOp, h71, go_sem]) (Below.refl _ _) ⟨rfl, fun h => by cases h⟩
    · have h79 : a.tmps[(79 : Nat)]?.getD undef = .pointer (some ⟨p, 0, none⟩) := hd 8 (by simp) (by kernel_rfl)
      exact grow_value (v := .pointer (some ⟨p, 3, none⟩)) (by simp [execOp, h79, go_sem]) (Below.refl _ _) ⟨rfl, fun h => by cases h⟩
  · intro fv w4 hb4 hs hn hne
    have g71 : fv 71 = .pointer (some ⟨p, 0, none⟩) := hs 0 (by simp)
    have g72 : fv 72 = .pointer (some ⟨p, 0, none⟩) := hs 1 (by simp)
    have g73 : fv 73 = .pointer (some ⟨p, 0, none⟩) := hs 2 (by simp)
    have g74 : fv 74 = .pointer (some ⟨p, 3, none⟩) := hs 3 (by simp)
    have g75 : fv 75 = .slice none 0 0 := hs 4 (by simp)
    have g76 : fv 76 = .agg ((threadC 2296 (.slice none 0 0)).toArray) := hs 5 (by simp)
    have g79 : fv 79 = .pointer (some ⟨p, 0, none⟩) := hs 8 (by simp)
    have g80 : fv 80 = .pointer (some ⟨p, 3, none⟩) := hs 9 (by simp)
    obtain ⟨gt, ct, g78, hownt⟩ : ∃ g cap, fv 78 = .slice (some ⟨g, 0, none⟩) 1 cap ∧ w4.ownsRow X.heap.size 100 23 (.slice (some ⟨g, 0, none⟩) 1 cap) 1 (threadC 2296 (.slice none 0 0)) := hs 7 (by simp)
    rw [show (List.range (List.length _)).map (dstOf _) = [71, 72, 73, 74, 75, 76, 77, 78, 79, 80] from by kernel_rfl]
    simp only [actOf, List.foldl, Act.put, List.drop, List.length, g71, g72, g73, g74, g75, g76, g79, g80, g78, List.setIfInBounds_toArray, List.set_cons_zero, List.set_cons_succ]
    clear hs hn hne g71 g72 g73 g74 g75 g76 g79 g80 g78
    have zp := (hb4.block _ (lt_of_block HX.out.2.2)).trans HX.out.2.2
    have zp' := zp
    unfold procC at zp'
    have c3 := cell_l zp' 3 rfl; have f3 := free_in zp' 3
    have lgt := (ownsRow_lt hownt).1
    have HZ := Lib.hid (And.intro hb4 (And.intro zp hownt))
    clear hb4 zp zp' hownt xp
    go_wp2
    go_ret2
    obtain ⟨hb4, zp, hownt⟩ := HZ.out
    obtain ⟨vo, vp, vb, vt, va, vsp, vx⟩ := HV.out
    obtain ⟨xv, xx, xp⟩ := HX.out
    have hs : Only (· = p) w4 (w4.setCell ⟨p, 3, none⟩ (.slice (some ⟨gt, 0, none⟩) 1 ct)) := (Only.refl _ _).setCell _ _ (.inl rfl)
    have a1 : Only (fun k => k = w3.heap.size ∨ k = p) V (w4.setCell ⟨p, 3, none⟩ (.slice (some ⟨gt, 0, none⟩) 1 ct)) := (xv.call hb4).transT hs
    refine ⟨rfl, (vo.transT a1).mono ?_, gt, ct, g', cap', b3, block_set zp 3 _, ownsRow_kept (ownsRow_lower hownt (by omega)) hs (show ¬ gt = p by omega), a1.kept vt ?_, vsp.kept a1 ?_, lg', HN.out.2.2.2.2⟩
    · rintro k hk (((h | h) | h) | (h | h))
      · exact .inr (.inl h)
      · simp [Value.ownBlock] at h; exact .inr (.inr (.inl h.symm))
      · exact .inr (.inr (.inr h))
      · omega
      · exact .inl h
    · rintro (h | h)
      · have := lt_of_block HH.out.2.2.2.1; omega
      · exact HN.out.1 h.symm
    · rintro k hk (rfl | rfl)
      · exact vsp.notCells vx (by decide) (by decide) (by decide) hk
      · exact vsp.notCells vp (by decide) (by decide) (by decide) hk
end Go.Proofs.YtkbilipgidcgeaaGreatDoor.Tiny
