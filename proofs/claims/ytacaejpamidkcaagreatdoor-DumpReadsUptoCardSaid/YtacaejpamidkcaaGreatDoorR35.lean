/- image.Bytes, image.Id of the example image. -/
import Derived.Test.YtacaejpamidkcaaGreatDoorR34
set_option linter.unusedVariables false
set_option linter.unusedSimpArgs false
set_option maxRecDepth 100000
set_option maxHeartbeats 1000000
namespace Go.Proofs.YtacaejpamidkcaaGreatDoor
section
open Go.RowKit Wire
attribute [local go_sem] ak_ af_
theorem imgL_ne (BI : Two.IB) : imgL BI ≠ [] := by
 intro h
 have h1 := congrArg List.length h
 unfold imgL at h1
 simp [bd_] at h1
theorem ibytes (BI : Two.IB) (w : World) (hd : Two.a5_ w BI.gd) (hbs : BI.bytes.size ≤ 1000000) :
 Calls Tryz.prog 87 #[.agg (Two.aa_ BI)] w fun e w' => e = .returned (strB (imgL BI)) ∧ Below w.heap.size w w' := by
 have lg := lt_of_block hd
 have HG := h2_ hd hbs
 clear hd hbs
 obtain ⟨C, hC⟩ : ∃ C, C = Two.aa_ BI := ⟨_, rfl⟩
 rw [← hC]
 have HC := h1_ hC
 clear hC
 go_enter Tryz.func87, Tryz.ntmps87
 go_upto_region 2 with fail
 refine ac_ fun V hV => ?_
 have hb : Below w.heap.size w V := by rw [← hV]; go_grown
 have hi : V.heap[w.heap.size]? = some (.cells C 52 (0, 0)) := by rw [← hV]; exact ae_ (heap_alloc_new _ _)
 have hc : V.heap[w.heap.size + 1]? = some (.cells (Value.pointer none :: Value.slice none 0 0 :: [Value.pointer none]).toArray 349 (0, 0)) := by
  have h := heap_alloc_new (w.alloc (Obj.cells C 52)) (Obj.cells #[.pointer none, .slice none 0 0, .pointer none] 349)
  rw [← hV]
  simpa using h
 have hcod : Cod w.heap.size (w.heap.size + 1) [] V := a9_.fresh (by omega) hc
 rw [HC.out] at hi
 have hdv : Two.a5_ V BI.gd := HG.out.1.below hb
 have HV := h4_ hb hi hcod hdv
 have sz := hb.size
 clear hV hb hi hc hcod hdv
 go_wp2_with fail
 refine (cimage BI w.heap.size (w.heap.size + 1) w.heap.size V HV.out.2.2.1 sz HV.out.2.1 (by omega) HV.out.2.2.2 (by omega) HG.out.2).mono ?_
 rintro e w1 ⟨rfl, h1, h2, h3⟩
 have H1 := h2_ h1 (HV.out.1.trans h2)
 clear h1 h2 h3
 go_wp2_with fail
 refine (o4_ 349 [.pointer none] e3_ w.heap.size (w.heap.size + 1) _ _ H1.out.1 (imgL_ne BI)).mono ?_
 rintro e w2 ⟨rfl, hbe⟩
 have H2 := h1_ (H1.out.2.trans hbe)
 clear hbe
 go_wp2
 go_ret
 exact ⟨rfl, H2.out⟩
theorem w2_ (BI : Two.IB) (hbs : BI.bytes.size ≤ 1000000) : (imgL BI).length ≤ 140737488355328 := by
 have l0 := bd_
 have lab9 : (bm_ Two.labS.data.toList).length ≤ 100 := by
  have h1 := b0_ (m := Two.labS.data.toList.length) (by decide)
  have h2 : Two.labS.data.toList.length ≤ 50 := by decide
  unfold bm_; rw [List.length_append]; omega
 have labb : (bm_ BI.bytes.data.toList).length ≤ 1000100 := by
  have h3 : BI.bytes.data.toList.length = BI.bytes.size := rfl
  have h1 := b0_ (m := BI.bytes.data.toList.length) (by omega)
  unfold bm_; rw [List.length_append]; omega
 have labn : (bm_ []).length ≤ 100 := by
  have h1 := b0_ (m := ([] : List UInt8).length) (by decide)
  unfold bm_; rw [List.length_append]; simp at *; omega
 have i0 := fa_ 0 ⟨by decide, by decide⟩
 have i256 := fa_ 256 ⟨by decide, by decide⟩
 have hinf : my_.length ≤ 1000 := by
  have e1 : (numL 1).length = 1 := by rw [cj_ (by decide)]; rfl
  have e80 := fa_ 80 ⟨by decide, by decide⟩
  unfold my_
  simp [l0, e1]
  omega
 unfold imgL
 simp only [List.map_cons, List.map_nil, List.flatten_cons, List.flatten_nil, List.append_nil, List.length_append, List.length_nil, List.length_cons]
 omega
theorem iid (t : Nat → Nat) (c : Nat → Int) (BI : Two.IB) (w : World) (hT : Tabs t c w) (hd : Two.a5_ w BI.gd) (hbs : BI.bytes.size ≤ 1000000) :
 Calls Tryz.prog 42 #[.agg (Two.aa_ BI)] w fun e w' => e = .returned (strB (Dig.sumL t c (imgL BI))) ∧ Below w.heap.size w w' := by
 have lg := lt_of_block hd
 have HG := h3_ hd hbs hT
 clear hd hbs hT
 obtain ⟨C, hC⟩ : ∃ C, C = Two.aa_ BI := ⟨_, rfl⟩
 have hsz := Two.au_ BI
 rw [← hC] at hsz ⊢
 have HC := h2_ hC hsz
 clear hC hsz
 go_enter Tryz.func42, Tryz.ntmps42
 go_upto_region 1 with fail
 refine ac_ fun V hV => ?_
 have hb : Below w.heap.size w V := by rw [← hV]; go_grown
 have hi : V.heap[w.heap.size]? = some (.cells C 52 (0, 0)) := by rw [← hV]; exact heap_alloc_new _ _
 have hdv : Two.a5_ V BI.gd := HG.out.1.below hb
 have HV := h3_ hb hi hdv
 have sz := hb.size
 clear hV hb hi hdv
 go_wp2_with (refine wpList_load_row rfl 52 (.tmp 1) rfl w.heap.size rfl 52 C (0, 0) _ HV.out.2.1 Tryz.underlying52 rfl HC.out.2 ?_)
 rw [HC.out.1]
 refine (ibytes BI V HV.out.2.2 HG.out.2.1).mono ?_
 rintro e w1 ⟨rfl, hb1⟩
 have hT1 := HG.out.2.2.below (HV.out.1.trans (hb1.mono sz))
 have H1 := h2_ (HV.out.1.trans (hb1.mono sz)) hT1
 have sz1 := hb1.size
 clear hb1 hT1
 go_wp2_with fail
 refine (ssum t c (imgL BI) (w2_ BI HG.out.2.1) _ H1.out.2).mono ?_
 rintro e w2 ⟨rfl, hb2⟩
 have H2 := h1_ (H1.out.1.trans (hb2.mono (by omega)))
 clear hb2
 go_wp2
 go_ret
 exact ⟨rfl, H2.out⟩
end
end Go.Proofs.YtacaejpamidkcaaGreatDoor
