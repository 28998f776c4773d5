/- linchpinlaw39.Lab. -/
import Derived.Laws.MakeOwn
import Derived.OwnWalk
import Derived.Laws.IdiomStrings
import Derived.Test.YtkbilipgidcgeaaGreatDoorW12
import Derived.Test.YtkbilipgidcgeaaGreatDoorW14
import Derived.Test.YtkbilipgidcgeaaGreatDoorW20
import Derived.Test.YtkbilipgidcgeaaGreatDoorW29
import Derived.Test.YtkbilipgidcgeaaGreatDoorW13
import Derived.Test.YtkbilipgidcgeaaGreatDoorW05
import Derived.Test.YtkbilipgidcgeaaGreatDoorW21
set_option linter.unusedVariables false
set_option linter.unusedSimpArgs false
namespace Go.Proofs.YtkbilipgidcgeaaGreatDoor
open Go.RowKit
attribute [local go_sem] ext_cell ext_frozen

/-- An instruction. -/
structure I5 where
  op : Int
  a : Int
  b : Int
  c : Int
  imm : Int
/-- The program of the example. -/
def insT : List I5 := [⟨26, 0, 0, 0, 0⟩, ⟨15, 2, 0, 0, 0⟩, ⟨15, 3, 0, 0, 8⟩, ⟨6, 2, 2, 3, 0⟩, ⟨17, 2, 1, 0, 8⟩, ⟨26, 0, 0, 0, 0⟩, ⟨1, 0, 0, 0, 0⟩, ⟨1, 0, 0, 0, 0⟩, ⟨17, 1, 1, 0, 0⟩, ⟨2, 0, 0, 0, 0⟩, ⟨30, 0, 0, 0, 4⟩, ⟨26, 0, 0, 0, 0⟩, ⟨17, 1, 1, 0, 8⟩, ⟨19, 0, 0, 0, -8⟩]
def insCells (l : List I5) : List Value := l.flatMap fun x => [.int .i64 x.op, .int .i64 x.a, .int .i64 x.b, .int .i64 x.c, .int .i64 x.imm]
def encI (x : I5) : List UInt8 := encL x.op x.a x.b x.c x.imm

theorem insT_ok : ∀ x ∈ insT, InsOk (opF x.op.toNat) x.op x.a x.b x.c x.imm := by
  intro x hx
  simp only [insT, List.mem_cons, List.not_mem_nil, or_false] at hx
  rcases hx with rfl | rfl | rfl | rfl | rfl | rfl | rfl | rfl | rfl | rfl | rfl | rfl | rfl | rfl
  all_goals
    refine ⟨by decide, by decide, ⟨by decide, by decide, by decide, by decide, by decide⟩, ?_, ?_, ?_, ?_, by decide, by decide, by decide, by decide, by decide, by decide⟩
  all_goals first | exact .inr rfl | exact .inl (by decide)

theorem insCells_get : ∀ (l : List I5) (k : Nat) (hk : k < l.length) (j : Nat), j < 5 → (insCells l)[k * 5 + j]? = [Value.int .i64 l[k].op, .int .i64 l[k].a, .int .i64 l[k].b, .int .i64 l[k].c, .int .i64 l[k].imm][j]? := by
  intro l
  induction l with
  | nil => intro k hk; simp at hk
  | cons x l ih =>
    intro k hk j hj
    unfold insCells at *
    cases k with
    | zero => simp only [List.flatMap_cons, Nat.zero_mul, Nat.zero_add, List.getElem_cons_zero]; rw [List.getElem?_append_left (by simp; omega)]
    | succ k =>
      simp only [List.flatMap_cons, List.getElem_cons_succ]
      rw [List.getElem?_append_right (by simp; omega), ← ih k (by simpa using hk) j hj]
      congr 1
      simp; omega

theorem append_str (l m : List UInt8) : (⟨l.toArray⟩ : ByteArray) ++ ⟨m.toArray⟩ = ⟨(l ++ m).toArray⟩ := by
  apply ByteArray.ext
  simp

/-- The code of the example. -/
def codeL : List UInt8 := insT.flatMap encI
theorem encI_length (x : I5) : (encI x).length = 8 := by
  unfold encI encL
  rw [putL_length _ _ _ (by simp [wordL4])]
  rfl
theorem code_length : codeL.length = 112 := by
  unfold codeL
  simp [insT, encI_length]

/-- The bytes of the image. -/
def labL (d : List UInt8) : List UInt8 := codeL ++ List.replicate 144 0 ++ d ++ List.replicate (256 - d.length) 0

theorem mk_bytes (n : Nat) (hn : n ≤ 1000000) (w : World) : (Instr.makeSlice 76 (.int .i64 n) (.int .i64 n)).run Tryz.prog w = .ok (.slice (some ⟨w.heap.size, 0, none⟩) n n) (w.alloc (.cells (byteCells (List.replicate n 0)).toArray 5)) := by
  obtain ⟨i0, hi, hz0, hz1, hz2⟩ := info_parts info_byte
  have h := run_make (P := Tryz.prog) w 76 5 i0 (.int .u8 0) Tryz.underlying76 hi hz0 .i64 .i64 (n : Int) (n : Int) (by omega) (by omega) (by rw [hz2]; omega) (by omega)
  rw [h, hz1]
  have : madeCells (Value.cells (.int .u8 0)) ((n : Int).toNat * 1) = (byteCells (List.replicate n 0)).toArray := by
    rw [show Value.cells (.int .u8 0) = #[.int .u8 0] from rfl, made_one]
    simp [byteCells]
  rw [this]
  simp

theorem add_str (t1 t2 : Tmp) (A B : ByteArray) (o : Oper) (a : Act) (w : World) (ho : o.op = .binOp .add 9 (.tmp t1) (.tmp t2) 9) (h1 : a.tmps[t1]?.getD undef = .string A) (h2 : a.tmps[t2]?.getD undef = .string B) (hs : A.size + B.size ≤ 1000000) :
    (execOp a.eval o).run Tryz.prog w = .ok (.value (.string (A ++ B))) w := by
  have hsz : ¬ 9223372036854775807 < A.size + B.size := by omega
  simp [execOp, ho, h1, h2, go_sem, hsz]

theorem conv_new {n : Nat} {b : Nat} {w : World} (h : w.heap[b]? = some (.cells (byteCells (List.replicate n 0)).toArray 5 (0, 0))) (t : Tmp) (o : Oper) (a : Act) (ho : o.op = .convert 76 9 (.tmp t)) (h1 : a.tmps[t]?.getD undef = .slice (some ⟨b, 0, none⟩) n n) :
    (execOp a.eval o).run Tryz.prog w = .ok (.value (.string ⟨(List.replicate n 0).toArray⟩)) w := by
  have hrun := run_convert_bytes_back (P := Tryz.prog) w 76 9 5 ⟨b, 0, none⟩ n (List.replicate n 0) Tryz.underlying76 Tryz.underlying5 Tryz.underlying9 (fun j hj => by
    rw [addr0]; exact bytes_cell h j hj)
  rw [List.length_replicate] at hrun
  simp [execOp, ho, Act.eval, h1, hrun]

theorem build_lab (B : ByteArray) (o : Oper) (a : Act) (w : World) (ho : o.op = .build 45 #[(0, .const (.string ⟨#[108, 97, 98]⟩)), (2, .const (.int .i64 256)), (3, .const (.int .i64 512)), (4, .const (.int .i64 512)), (5, .tmp 59)]) (h : a.tmps[(59 : Nat)]?.getD undef = .string B) :
    (execOp a.eval o).run Tryz.prog w = .ok (.value (.agg (labCells B))) w := by
  unfold labCells labS
  simp [execOp, ho, h, go_sem]

set_option maxRecDepth 100000 in
set_option maxHeartbeats 4000000 in
theorem lab_any (d : List UInt8) (w : World) (hdn : d.length ≤ 256) (hf : Forms w) :
    Calls Tryz.prog 8 #[.string ⟨d.toArray⟩] w fun e w' => Below w.heap.size w w' ∧ e = .returned (.agg (labCells ⟨(labL d).toArray⟩)) := by
  have HF := Lib.hid hf
  have hdl : ((⟨d.toArray⟩ : ByteArray).size : Int) ≤ 256 := by simp [ByteArray.size]; omega
  clear hf
  go_enter Tryz.func8, Tryz.ntmps8
  go_upto_region 4 with fail
  refine name_world fun W hW => ?_
  have wB : Below w.heap.size w W := by rw [← hW]; go_grown
  have w2b : W.heap[w.heap.size]? = some (.cells [.string ⟨#[]⟩, .bool false, .int .i64 0, .int .i64 0, .int .i64 0, .string ⟨#[]⟩, .string ⟨#[]⟩, .int .i64 0, .slice none 0 0, .slice none 0 0, .slice none 0 0, .slice none 0 0, .slice none 0 0, .slice none 0 0, .slice none 0 0, .slice none 0 0, .int .i64 0, .slice none 0 0, .slice none 0 0, .slice none 0 0, .slice none 0 0, .slice none 0 0, .slice none 0 0, .slice none 0 0, .slice none 0 0, .slice none 0 0].toArray 45 (0, 0)) := by rw [← hW]; exact block_old (heap_alloc_new _ _)
  have w4b : W.heap[w.heap.size + 1]? = some (.cells (insCells insT).toArray 67 (0, 0)) := by rw [← hW]; exact heap_alloc2_new _ _ _
  have HW := Lib.hid (And.intro wB (And.intro w2b w4b))
  have lW := lt_of_block w4b
  clear wB w2b w4b hW
  go_wp2_with fail
  go_loopw [3, 5] (fun s i wr => ∃ k : Nat, k ≤ 14 ∧ i = .int .i64 k ∧ s = .string ⟨((insT.take k).flatMap encI).toArray⟩ ∧ Below W.heap.size W wr) (fun _ i _ => 14 - (pI i).toNat)
  case atStart => exact ⟨0, Nat.zero_le _, rfl, rfl, Below.refl _ _⟩
  case round =>
    obtain ⟨k, hk, rfl, rfl, hb⟩ := hrel
    have HB := Lib.hid hb
    have k0 : (0 : Int) ≤ (k : Int) := by omega
    by_cases hlt : k < 14
    · have hlk : k < insT.length := hlt
      have k1 : (k : Int) < 14 := by omega
      have dd : ∀ j u, j < 5 → [Value.int .i64 insT[k].op, .int .i64 insT[k].a, .int .i64 insT[k].b, .int .i64 insT[k].c, .int .i64 insT[k].imm][j]? = some u → wr.cell? ⟨w.heap.size + 1, k * 5 + j, none⟩ = some u := fun j u hj hu =>
        (hb.cell (p := ⟨w.heap.size + 1, k * 5 + j, none⟩) lW).trans (cell_l HW.out.2.2 _ ((insCells_get insT k hlk j hj).trans hu))
      have d0 : wr.cell? ⟨w.heap.size + 1, k * 5, none⟩ = some (.int .i64 insT[k].op) := dd 0 _ (by omega) rfl
      have d1 := dd 1 _ (by omega) rfl
      have d2 := dd 2 _ (by omega) rfl
      have d3 := dd 3 _ (by omega) rfl
      have d4 := dd 4 _ (by omega) rfl
      have hok := insT_ok _ (List.getElem_mem hlk)
      have htk : (insT.take (k + 1)).flatMap encI = (insT.take k).flatMap encI ++ encI insT[k] := by
        rw [List.take_succ_eq_append_getElem hlk, List.flatMap_append]; simp
      obtain ⟨x, hx⟩ : ∃ x, x = insT[k] := ⟨_, rfl⟩
      rw [← hx] at d0 d1 d2 d3 d4 hok htk
      have HK := Lib.hid (And.intro hok htk)
      clear dd hok htk hx hb
      obtain ⟨A, hA⟩ : ∃ A, A = (⟨((insT.take k).flatMap encI).toArray⟩ : ByteArray) := ⟨_, rfl⟩
      obtain ⟨Bx, hBx⟩ : ∃ Bx, Bx = (⟨(encL x.op x.a x.b x.c x.imm).toArray⟩ : ByteArray) := ⟨_, rfl⟩
      rw [← hA]
      have hAs : A.size ≤ 1000 := by
        rw [hA]
        have : ∀ l : List I5, (l.flatMap encI).length = 8 * l.length := fun l => by
          induction l with
          | nil => rfl
          | cons y l ih => rw [List.flatMap_cons, List.length_append, ih, encI_length, List.length_cons]; omega
        simp only [ByteArray.size, List.size_toArray, this, List.length_take]
        omega
      have hBs : Bx.size = 8 := by
        rw [hBx]; exact (by have := encI_length x; unfold encI at this; simpa [ByteArray.size] using this)
      have hsz : ¬ 9223372036854775807 < A.size + Bx.size := by omega
      have HAB := Lib.hid (And.intro hA hBx)
      clear hA hBx hAs hBs
      go_wp2_with (go_at_call 28; refine (encode_ok x.op x.a x.b x.c x.imm _ (HF.out.below (HW.out.1.trans (HB.out.mono HW.out.1.size))) HK.out.1).mono ?_; rintro e w2 ⟨hb2, rfl⟩; rw [← HAB.out.2]; have H2 := Lib.hid hb2; clear hb2)
      have hA := HAB.out.1
      subst hA
      go_roundw
      case rel =>
        refine ⟨k + 1, by omega, by go_num, ?_, HB.out.trans (H2.out.mono HB.out.size)⟩
        rw [HK.out.2, HAB.out.2]
        congr 1
        all_goals exact append_str _ _
      case measure => simp [pI]; omega
    · obtain rfl : k = 14 := by omega
      have hS : (insT.take 14).flatMap encI = codeL := rfl
      rw [hS]
      have hcl : ((⟨codeL.toArray⟩ : ByteArray).size : Int) = 112 := by simp [ByteArray.size, code_length]
      obtain ⟨S, hSS⟩ : ∃ S, S = (⟨codeL.toArray⟩ : ByteArray) := ⟨_, rfl⟩
      rw [← hSS] at hcl
      rw [← hSS]
      have HS := Lib.hid (And.intro hSS hcl)
      clear hS hSS hcl hb
      have w2r := (HB.out.block _ (lt_of_block HW.out.2.1)).trans HW.out.2.1
      have rB := HW.out.1.trans (HB.out.mono HW.out.1.size)
      have HR := Lib.hid (And.intro rB w2r)
      clear w2r rB
      go_wp2_with fail
      obtain ⟨D, hD⟩ : ∃ D, D = (⟨d.toArray⟩ : ByteArray) := ⟨_, rfl⟩
      rw [← hD]
      have hDs : (D.size : Int) = (d.length : Int) := by rw [hD]; simp [ByteArray.size]
      have HDD := Lib.hid (And.intro hD hDs)
      have hSn : S.size = 112 := by have := HS.out.2; omega
      have HSZ := Lib.hid (show S.size + (⟨(List.replicate 144 0).toArray⟩ : ByteArray).size ≤ 1000000 ∧ (S ++ ⟨(List.replicate 144 0).toArray⟩).size + D.size ≤ 1000000 ∧ (S ++ ⟨(List.replicate 144 0).toArray⟩ ++ D).size + (⟨(List.replicate (256 - d.length) 0).toArray⟩ : ByteArray).size ≤ 1000000 from by
        have h1 : (⟨(List.replicate 144 0).toArray⟩ : ByteArray).size = 144 := by simp [ByteArray.size]
        have h2 : (⟨(List.replicate (256 - d.length) 0).toArray⟩ : ByteArray).size = 256 - d.length := by simp [ByteArray.size]
        have h3 := HDD.out.2
        simp only [ByteArray.size_append]
        omega)
      clear hSn
      clear hD hDs hdl
      refine wp_region_facts [.val (.string S), .val (.string S), .val (.int .i64 112), .val (.int .i64 144), .blk (fun b => .slice (some ⟨b, 0, none⟩) 144 144) (.cells (byteCells (List.replicate 144 0)).toArray 5 (0, 0)), .val (.string ⟨(List.replicate 144 0).toArray⟩), .val (.string (S ++ ⟨(List.replicate 144 0).toArray⟩)), .val (.string D), .val (.string (S ++ ⟨(List.replicate 144 0).toArray⟩ ++ D)), .val (.string D), .val (.int .i64 d.length), .val (.int .i64 ((256 - d.length : Nat) : Int)), .blk (fun b => .slice (some ⟨b, 0, none⟩) (256 - d.length) (256 - d.length)) (.cells (byteCells (List.replicate (256 - d.length) 0)).toArray 5 (0, 0)), .val (.string ⟨(List.replicate (256 - d.length) 0).toArray⟩), .val (.string (S ++ ⟨(List.replicate 144 0).toArray⟩ ++ D ++ ⟨(List.replicate (256 - d.length) 0).toArray⟩)), .val (.agg (labCells (S ++ ⟨(List.replicate 144 0).toArray⟩ ++ D ++ ⟨(List.replicate (256 - d.length) 0).toArray⟩)))] (by kernel_rfl) (by kernel_rfl) ?_ ?_
      · simp only [stepsAll, List.take, List.length]
        refine ⟨?_, ?_, ?_, ?_, ?_, ?_, ?_, ?_, ?_, ?_, ?_, ?_, ?_, ?_, ?_, ?_, ?_⟩
        all_goals first | trivial | (intro a wx hb hf hd)
        all_goals have hf0 : a.tmps[(0 : Nat)]?.getD undef = .string D := (hf 0 (by decide +kernel)).trans rfl
        all_goals have hf3 : a.tmps[(3 : Nat)]?.getD undef = .string S := (hf 3 (by decide +kernel)).trans rfl
        · exact grow_tmp _ rfl ⟨hf3, fun h => by cases h⟩
        · exact grow_tmp _ rfl ⟨hf3, fun h => by cases h⟩
        · have h46 : a.tmps[(46 : Nat)]?.getD undef = .string S := hd 1 (by simp) (by kernel_rfl)
          exact grow_value (v := .int .i64 112) (by simp [execOp, h46, go_sem, HS.out.2]) (Below.refl _ _) ⟨rfl, fun h => by cases h⟩
        · have h47 : a.tmps[(47 : Nat)]?.getD undef = .int .i64 112 := hd 2 (by simp) (by kernel_rfl)
          exact grow_value (v := .int .i64 144) (by simp [execOp, h47, go_sem]; rfl) (Below.refl _ _) ⟨rfl, fun h => by cases h⟩
        · have h48 : a.tmps[(48 : Nat)]?.getD undef = .int .i64 144 := hd 3 (by simp) (by kernel_rfl)
          refine grow_value (v := .slice (some ⟨wx.heap.size, 0, none⟩) 144 144) (w' := wx.alloc (.cells (byteCells (List.replicate 144 0)).toArray 5)) ?_ ((Below.refl _ _).alloc (Nat.le_refl _) _) ⟨⟨_, rfl, heap_alloc_new _ _⟩, fun _ b hbk => by simp [blkOf] at hbk; subst hbk; simp⟩
          have hm := mk_bytes 144 (by omega) wx
          simp [execOp, Act.eval, h48]
          exact congrArg (fun r => Result.andThen r _) hm
        · obtain ⟨b, hb49, hblk⟩ : ∃ b, a.tmps[(49 : Nat)]?.getD undef = .slice (some ⟨b, 0, none⟩) 144 144 ∧ wx.heap[b]? = some (.cells (byteCells (List.replicate 144 0)).toArray 5 (0, 0)) := hd 4 (by simp) (by kernel_rfl)
          exact grow_value (conv_new hblk 49 _ _ rfl hb49) (Below.refl _ _) ⟨rfl, fun h => by cases h⟩
        · have h45 : a.tmps[(45 : Nat)]?.getD undef = .string S := hd 0 (by simp) (by kernel_rfl)
          have h50 : a.tmps[(50 : Nat)]?.getD undef = .string ⟨(List.replicate 144 0).toArray⟩ := hd 5 (by simp) (by kernel_rfl)
          exact grow_value (add_str 45 50 _ _ _ _ _ rfl h45 h50 HSZ.out.1) (Below.refl _ _) ⟨rfl, fun h => by cases h⟩
        · exact grow_tmp _ rfl ⟨hf0, fun h => by cases h⟩
        · have h51 : a.tmps[(51 : Nat)]?.getD undef = .string (S ++ ⟨(List.replicate 144 0).toArray⟩) := hd 6 (by simp) (by kernel_rfl)
          have h52 : a.tmps[(52 : Nat)]?.getD undef = .string D := hd 7 (by simp) (by kernel_rfl)
          exact grow_value (add_str 51 52 _ _ _ _ _ rfl h51 h52 HSZ.out.2.1) (Below.refl _ _) ⟨rfl, fun h => by cases h⟩
        · exact grow_tmp _ rfl ⟨hf0, fun h => by cases h⟩
        · have h54 : a.tmps[(54 : Nat)]?.getD undef = .string D := hd 9 (by simp) (by kernel_rfl)
          exact grow_value (v := .int .i64 d.length) (by simp [execOp, h54, go_sem, HDD.out.2]) (Below.refl _ _) ⟨rfl, fun h => by cases h⟩
        · have h55 : a.tmps[(55 : Nat)]?.getD undef = .int .i64 d.length := hd 10 (by simp) (by kernel_rfl)
          have hw : IntKind.i64.wrap (256 - (d.length : Int)) = ((256 - d.length : Nat) : Int) := by rw [IntWalk.i64_in _ (by omega)]; omega
          exact grow_value (v := .int .i64 ((256 - d.length : Nat) : Int)) (by simp [execOp, h55, go_sem, hw]) (Below.refl _ _) ⟨rfl, fun h => by cases h⟩
        · have h56 : a.tmps[(56 : Nat)]?.getD undef = .int .i64 ((256 - d.length : Nat) : Int) := hd 11 (by simp) (by kernel_rfl)
          refine grow_value (v := .slice (some ⟨wx.heap.size, 0, none⟩) (256 - d.length) (256 - d.length)) (w' := wx.alloc (.cells (byteCells (List.replicate (256 - d.length) 0)).toArray 5)) ?_ ((Below.refl _ _).alloc (Nat.le_refl _) _) ⟨⟨_, rfl, heap_alloc_new _ _⟩, fun _ b hbk => by simp [blkOf] at hbk; subst hbk; simp⟩
          have hm := mk_bytes (256 - d.length) (by omega) wx
          clear hd hf
          generalize 256 - d.length = nn at *
          simp [execOp, Act.eval, h56]
          exact congrArg (fun r => Result.andThen r _) hm
        · obtain ⟨b, hb57, hblk⟩ : ∃ b, a.tmps[(57 : Nat)]?.getD undef = .slice (some ⟨b, 0, none⟩) (256 - d.length) (256 - d.length) ∧ wx.heap[b]? = some (.cells (byteCells (List.replicate (256 - d.length) 0)).toArray 5 (0, 0)) := hd 12 (by simp) (by kernel_rfl)
          exact grow_value (conv_new hblk 57 _ _ rfl hb57) (Below.refl _ _) ⟨rfl, fun h => by cases h⟩
        · have h53 : a.tmps[(53 : Nat)]?.getD undef = .string (S ++ ⟨(List.replicate 144 0).toArray⟩ ++ D) := hd 8 (by simp) (by kernel_rfl)
          have h58 : a.tmps[(58 : Nat)]?.getD undef = .string ⟨(List.replicate (256 - d.length) 0).toArray⟩ := hd 13 (by simp) (by kernel_rfl)
          exact grow_value (add_str 53 58 _ _ _ _ _ rfl h53 h58 HSZ.out.2.2) (Below.refl _ _) ⟨rfl, fun h => by cases h⟩
        · have h59 : a.tmps[(59 : Nat)]?.getD undef = .string (S ++ ⟨(List.replicate 144 0).toArray⟩ ++ D ++ ⟨(List.replicate (256 - d.length) 0).toArray⟩) := hd 14 (by simp) (by kernel_rfl)
          exact grow_value (build_lab _ _ _ _ rfl h59) (Below.refl _ _) ⟨rfl, fun h => by cases h⟩
      · intro fv w2 hb2 hs hn hne
        have g45 : fv 45 = .string S := hs 0 (by simp)
        have g46 : fv 46 = .string S := hs 1 (by simp)
        have g47 : fv 47 = .int .i64 112 := hs 2 (by simp)
        have g48 : fv 48 = .int .i64 144 := hs 3 (by simp)
        have g50 : fv 50 = .string ⟨(List.replicate 144 0).toArray⟩ := hs 5 (by simp)
        have g51 : fv 51 = .string (S ++ ⟨(List.replicate 144 0).toArray⟩) := hs 6 (by simp)
        have g52 : fv 52 = .string D := hs 7 (by simp)
        have g53 : fv 53 = .string (S ++ ⟨(List.replicate 144 0).toArray⟩ ++ D) := hs 8 (by simp)
        have g54 : fv 54 = .string D := hs 9 (by simp)
        have g55 : fv 55 = .int .i64 d.length := hs 10 (by simp)
        have g56 : fv 56 = .int .i64 ((256 - d.length : Nat) : Int) := hs 11 (by simp)
        have g58 : fv 58 = .string ⟨(List.replicate (256 - d.length) 0).toArray⟩ := hs 13 (by simp)
        have g59 : fv 59 = .string (S ++ ⟨(List.replicate 144 0).toArray⟩ ++ D ++ ⟨(List.replicate (256 - d.length) 0).toArray⟩) := hs 14 (by simp)
        have g60 : fv 60 = .agg (labCells (S ++ ⟨(List.replicate 144 0).toArray⟩ ++ D ++ ⟨(List.replicate (256 - d.length) 0).toArray⟩)) := hs 15 (by simp)
        rw [show (List.range (List.length _)).map (dstOf _) = [45, 46, 47, 48, 49, 50, 51, 52, 53, 54, 55, 56, 57, 58, 59, 60] from by kernel_rfl]
        simp only [actOf, List.foldl, Act.put, List.drop, List.length, g45, g46, g47, g48, g50, g51, g52, g53, g54, g55, g56, g58, g59, g60, List.setIfInBounds_toArray, List.set_cons_zero, List.set_cons_succ]
        clear hs hn hne g45 g46 g47 g48 g50 g51 g52 g53 g54 g55 g56 g58 g59 g60
        have x2 := (hb2.block _ (lt_of_block HR.out.2)).trans HR.out.2
        have HX := Lib.hid (And.intro hb2 x2)
        clear hb2
        go_wp2_with ((with_reducible refine at_store_law ?_); refine wpList_store_row rfl 45 _ _ rfl _ _ rfl rfl _ _ x2 (lab_size _) (by unfold labCells; rfl) (lab_one _) ?_)
        refine bodyPost_ret (results_cell_row rfl _ _ w.heap.size _ _ _ _ rfl (setRow_heap _ _ _ _ _ _ HX.out.2) Tryz.underlying45 rfl (lab_size _)) rfl ?_
        refine ⟨((Only.of_below_le (HR.out.1.trans (HX.out.1.mono HR.out.1.size)) (fun k _ h => h) : Only (fun b => w.heap.size ≤ b) w w2).setRow _ _ (.inl (Nat.le_refl _))).below (Nat.le_refl _) (fun k h => h), ?_⟩
        rw [HS.out.1, HDD.out.1, append_str, append_str, append_str]
        rfl
end Go.Proofs.YtkbilipgidcgeaaGreatDoor
