/- room.Cut. room.Fit. Plain: what Cut leaves of a right list is right. Contracts of package space: the search. A memory of a process: what it looks like; Free. space: search, find. -/
import Derived.Deep.DrawnRows
import Derived.Test.YtacaejpamidkcaaGreatDoorR02
set_option linter.unusedVariables false
set_option linter.unusedSimpArgs false
set_option maxRecDepth 100000
set_option maxHeartbeats 1000000
namespace Go.Proofs.YtacaejpamidkcaaGreatDoor
section
open Go.RowKit
attribute [local go_sem] ak_ af_
attribute [local go_sem ↓] Go.wp_at_zero Go.wp_at_succ
def cutL (l : List (Int × Int)) (a s : Int) : List (Int × Int) :=
 l.foldl (fun acc x => cz_ (cz_ acc x.1 (min (x.1 + x.2) a)) (max x.1 (a + s)) (x.1 + x.2)) []
theorem ok_ (l : List (Int × Int)) (a s : Int) : (cutL l a s).length ≤ 2 * l.length := by
 have H : ∀ (l acc : List (Int × Int)), (l.foldl (fun acc x => cz_ (cz_ acc x.1 (min (x.1 + x.2) a)) (max x.1 (a + s)) (x.1 + x.2)) acc).length ≤ acc.length + 2 * l.length := by
  intro l
  induction l with
  | nil => intro acc; simp
  | cons x l ih =>
   intro acc
   simp only [List.foldl_cons, List.length_cons]
   have h1 : ∀ (l : List (Int × Int)) (f u : Int), (cz_ l f u).length ≤ l.length + 1 := by intro l f u; unfold cz_; split <;> simp
   have := ih (cz_ (cz_ acc x.1 (min (x.1 + x.2) a)) (max x.1 (a + s)) (x.1 + x.2))
   have h2 := h1 (cz_ acc x.1 (min (x.1 + x.2) a)) (max x.1 (a + s)) (x.1 + x.2)
   have h3 := h1 acc x.1 (min (x.1 + x.2) a)
   omega
 simpa [cutL] using H l []
theorem sy_ (l : List (Int × Int)) (a s : Int) (k : Nat) (h : k < l.length) :
 cutL (l.take (k + 1)) a s = cz_ (cz_ (cutL (l.take k) a s) (l[k]).1 (min ((l[k]).1 + (l[k]).2) a)) (max (l[k]).1 (a + s)) ((l[k]).1 + (l[k]).2) := by
 unfold cutL
 rw [List.take_succ_eq_append_getElem h, List.foldl_append]
 rfl
theorem min_g (x y : Int) : (if y < x then y else x) = min x y := by omega
theorem max_g (x y : Int) : (if x < y then y else x) = max x y := by omega
theorem i7_.cell {w w' : World} {ob : Nat} {keep : Nat → Prop} (h : i7_ w w' ob keep) {b o : Nat} (hb : keep b) {v : Value} (hc : w.cell? ⟨b, o, none⟩ = some v) : w'.cell? ⟨b, o, none⟩ = some v :=
 (World.cell?_of_block (a := ⟨b, o, none⟩) (h.2.2.2.2 b hb)).trans hc
theorem i7_.below {w w' : World} {ob : Nat} {keep : Nat → Prop} (h : i7_ w w' ob keep) {B : Nat} (hB : ∀ b, b < B → keep b) : Below B w w' :=
 ⟨h.1, h.2.1, h.2.2.1, h.2.2.2.1, fun b hb => h.2.2.2.2 b (hB b hb)⟩
theorem fs_ (g j : Nat) : (⟨g, 0, none⟩ : Addr).add j = ⟨g, j, none⟩ := by unfold Addr.add; split <;> simp_all
theorem gx_ {w : World} {B B' : Nat} {e : TypeId} {size : Nat} {v : Value} {n : Nat} {xs : List Value} (h : w.ownsRow B e size v n xs) (hb : ∀ g, v.ownBlock = some g → B' ≤ g) : w.ownsRow B' e size v n xs := by
 refine ⟨h.1, ?_⟩
 rcases h.2 with h2 | ⟨g, cap, cur, rfl, hg, r⟩
 · exact .inl h2
 · exact .inr ⟨g, cap, cur, rfl, hb g rfl, r⟩
theorem cut_row (g cap : Nat) (l : List (Int × Int)) (a s : Int) (w : World) (hR : cs_ l) (hg0 : g < w.heap.size) (hcap : l.length ≤ 100000)
 (hc : ∀ j u, (bq_ l)[j]? = some u → w.cell? ⟨g, j, none⟩ = some u) (hs : fh_ a s = true) (hs0 : 0 < s) :
 Calls Tryz.prog 157 #[.slice (some ⟨g, 0, none⟩) l.length cap, mb_ a s] w fun e w' => Below w.heap.size w w' ∧
  ∃ v, e = .returned v ∧ w'.ownsRow w.heap.size 67 2 v (cutL l a s).length (bq_ (cutL l a s)) := by
 have hs1 : 0 ≤ a ∧ a + s ≤ 1099511627776 := by simp [fh_] at hs; omega
 obtain ⟨hs1, hs2⟩ := hs1
 have hz : (s == 0) = false := by simp; omega
 have HC := h1_ hc
 have HR := h1_ hR
 clear hc hR
 go_enter Tryz.func157, Tryz.ntmps157
 go_wp2_with (first
  | (go_at_call 233; refine (mc_ g cap l _ HR.out (by omega) ?hcc).mono ?_; rotate_right; rintro e w1 ⟨rfl, hb1⟩; have hn1 := b9_ hb1; have c0 := al_ hn1 0 rfl; have c1 := al_ hn1 1 rfl; have HN1 := h1_ hn1; clear hn1)
  | (go_at_call 234; refine (le_ a s hs _).mono ?_; rintro e w2 ⟨rfl, hb2⟩; have c2 := (hd_ hb2).1 w.heap.size 0 (by have := hb1.size; simp at this; omega); have c3 := (hd_ hb2).1 w.heap.size 1 (by have := hb1.size; simp at this; omega); rw [c0] at c2; rw [c1] at c3))
 case hcc => exact fun j u hj => (Below.heap_alloc w _ _ hg0 |> World.cell?_of_block (a := ⟨g, j, none⟩)).trans (HC.out j u hj)
 have hsz1 := hb1.size
 simp at hsz1
 have hsz2 := hb2.size
 have hbx : Below w.heap.size w w2 := ((Below.refl _ _).alloc (Nat.le_refl _) _).trans ((hb1.mono (by simp)).trans (hb2.mono (by omega)))
 have H12 := h2_ hb1 hb2
 clear hb1 hb2
 go_loopw [27] (fun i wr => ∃ (k : Nat) (v : Value), k ≤ l.length ∧ i = .int .i64 k ∧ wr.heap[w2.heap.size]? = some (.cells #[v] 44 (0, 0)) ∧
  wr.ownsRow (w2.heap.size + 1) 67 2 v (cutL (l.take k) a s).length (bq_ (cutL (l.take k) a s)) ∧ Below w2.heap.size w2 wr) (fun i _ => l.length - (RowKit.intOf i).toNat)
 case atStart => exact ⟨0, _, Nat.zero_le _, rfl, heap_alloc_new w2 _, World.ownsRow_nil _ _ _ _, (Below.refl _ _).alloc (Nat.le_refl _) _⟩
 case round =>
  obtain ⟨k, v, hk, rfl, hv, hown, hb⟩ := hrel
  by_cases hlt : k < l.length
  · obtain ⟨h1a, h1b, h1c⟩ := HR.out.at k hlt
    have hgr : g < wr.heap.size := by have := hb.size; omega
    have c0' : wr.cell? ⟨g, k * 2, none⟩ = some (.int .i64 (l[k]).1) := (hb.cell (p := ⟨g, k * 2, none⟩) (by simp; omega)).trans ((hbx.cell (p := ⟨g, k * 2, none⟩) hg0).trans (HC.out _ _ (cg_ l k hlt).1))
    have c1' : wr.cell? ⟨g, k * 2 + 1, none⟩ = some (.int .i64 (l[k]).2) := (hb.cell (p := ⟨g, k * 2 + 1, none⟩) (by simp; omega)).trans ((hbx.cell (p := ⟨g, k * 2 + 1, none⟩) hg0).trans (HC.out _ _ (cg_ l k hlt).2))
    have c2' : wr.cell? ⟨w.heap.size, 0, none⟩ = some (.int .i64 a) := (hb.cell (p := ⟨w.heap.size, 0, none⟩) (by simp; omega)).trans c2
    have c3' : wr.cell? ⟨w.heap.size, 1, none⟩ = some (.int .i64 s) := (hb.cell (p := ⟨w.heap.size, 1, none⟩) (by simp; omega)).trans c3
    have hlen := ok_ (l.take k) a s
    have hlt' : (l.take k).length ≤ k := List.length_take_le _ _
    have hown0 := gx_ (B' := 0) hown (fun _ _ => Nat.zero_le _)
    have hlt2 := hown.lt
    have hwr := hb.size
    have HB8 := h1_ (show ∀ o1 o2, Below wr.heap.size wr (((wr.alloc o1).alloc o2).drew) from fun o1 o2 => (((Below.refl _ _).alloc (Nat.le_refl _) _).alloc (by simp) _).drew)
    have HV8 := h1_ (show ∀ o1 o2, (((wr.alloc o1).alloc o2).drew).heap[w2.heap.size]? = some (.cells #[v] 44 (0, 0)) from fun o1 o2 => ((HB8.out o1 o2).block _ (lt_of_block hv)).trans hv)
    have HO8 := h1_ (show ∀ o1 o2, (((wr.alloc o1).alloc o2).drew).ownsRow 0 67 2 v (cutL (l.take k) a s).length (bq_ (cutL (l.take k) a s)) from fun o1 o2 => ((hown0.alloc o1).alloc o2).drew)
    have C8 := h1_ (show ∀ o2, (((wr.alloc (.cells #[.int .i64 (l[k]).1, .int .i64 (l[k]).2] 67)).alloc o2).drew).cell? ⟨wr.heap.size, 0, none⟩ = some (.int .i64 (l[k]).1) ∧ (((wr.alloc (.cells #[.int .i64 (l[k]).1, .int .i64 (l[k]).2] 67)).alloc o2).drew).cell? ⟨wr.heap.size, 1, none⟩ = some (.int .i64 (l[k]).2) ∧ (((wr.alloc (.cells #[.int .i64 (l[k]).1, .int .i64 (l[k]).2] 67)).alloc o2).drew).cell? ⟨w.heap.size, 0, none⟩ = some (.int .i64 a) ∧ (((wr.alloc (.cells #[.int .i64 (l[k]).1, .int .i64 (l[k]).2] 67)).alloc o2).drew).cell? ⟨w.heap.size, 1, none⟩ = some (.int .i64 s) from fun o2 =>
     have hn : (((wr.alloc (.cells #[.int .i64 (l[k]).1, .int .i64 (l[k]).2] 67)).alloc o2).drew).heap[wr.heap.size]? = some (.cells #[.int .i64 (l[k]).1, .int .i64 (l[k]).2] 67) := b9_ (((Below.refl _ _).alloc (Nat.le_refl _) _).drew)
     ⟨al_ hn 0 rfl, al_ hn 1 rfl, ((HB8.out _ _).cell (p := ⟨w.heap.size, 0, none⟩) (by simp; omega)).trans c2', ((HB8.out _ _).cell (p := ⟨w.heap.size, 1, none⟩) (by simp; omega)).trans c3'⟩)
    have K8 := h1_ (show ∀ o1 o2, (wr.heap.size < (((wr.alloc o1).alloc o2).drew).heap.size ∧ wr.heap.size ≠ w2.heap.size ∧ some wr.heap.size ≠ v.ownBlock) ∧ (w.heap.size < (((wr.alloc o1).alloc o2).drew).heap.size ∧ w.heap.size ≠ w2.heap.size ∧ some w.heap.size ≠ v.ownBlock) from fun o1 o2 =>
     ⟨⟨by simp; omega, by have := lt_of_block hv; omega, fun e => by have := hlt2 _ e.symm; omega⟩, ⟨by simp; omega, by omega, fun e => by have := hlt2 _ e.symm; omega⟩⟩)
    obtain ⟨m1, hm1⟩ : ∃ m, (if a < (l[k]).1 + (l[k]).2 then a else (l[k]).1 + (l[k]).2) = m := ⟨_, rfl⟩
    have hm1a : 0 ≤ m1 := by rw [← hm1]; split <;> omega
    have hm1b : m1 ≤ 1099511627776 := by rw [← hm1]; split <;> omega
    have HD := h1_ hlt2
    have HV := h3_ hv hown hb
    clear hv hown hb hown0 hlt2
    go_wp2
    go_region_held3 (fun w' => w'.cell? ⟨wr.heap.size, 0, none⟩ = some (.int .i64 (l[k]).1) ∧ w'.cell? ⟨wr.heap.size, 1, none⟩ = some (.int .i64 (l[k]).2) ∧ w'.cell? ⟨w.heap.size, 0, none⟩ = some (.int .i64 a))
     (first | go_keep) (first | (go_at_call 236; refine (ld_ _ _ _ (by omega) (by omega)).mono ?_; rintro e w' ⟨rfl, rfl⟩) | (go_at_call 235; refine (p3_ w2.heap.size v (cutL (l.take k) a s) _ _ _ (by omega) (by omega) (by omega) (by omega) (by omega) (HV8.out _ _) (HO8.out _ _)).mono ?_; rintro e w3 ⟨rfl, v3, hv3, hown3, hat3, hk3⟩; have d0 := hk3.cell (K8.out _ _).1 (C8.out _).1; have d1 := hk3.cell (K8.out _ _).1 (C8.out _).2.1; have d2 := hk3.cell (K8.out _ _).2 (C8.out _).2.2.1; have d3 := hk3.cell (K8.out _ _).2 (C8.out _).2.2.2; have HH3 := h4_ hv3 hown3 hat3 hk3; clear hv3 hown3 hat3 hk3))
    obtain ⟨hv3, hown3, hat3, hk3⟩ := HH3.out
    have hs3 := hk3.2.2.2.1
    simp at hs3
    obtain ⟨m2, hm2⟩ : ∃ m, (if (l[k]).1 < a + s then a + s else (l[k]).1) = m := ⟨_, rfl⟩
    have hm2a : 0 ≤ m2 := by rw [← hm2]; split <;> omega
    have hm2b : m2 ≤ 1099511627776 := by rw [← hm2]; split <;> omega
    have hlen3 : (cz_ (cutL (l.take k) a s) (l[k]).1 m1).length ≤ (cutL (l.take k) a s).length + 1 := by unfold cz_; split <;> simp
    have hlt3 := hown3.lt
    have HV9 := h1_ (show ∀ o1 o2, (((w3.alloc o1).alloc o2).drew).heap[w2.heap.size]? = some (.cells #[v3] 44 (0, 0)) from fun o1 o2 => ((((Below.refl _ _).alloc (Nat.le_refl _) _).alloc (by simp) _).drew.block _ (lt_of_block hv3)).trans hv3)
    have HO9 := h1_ (show ∀ o1 o2, (((w3.alloc o1).alloc o2).drew).ownsRow 0 67 2 v3 (cz_ (cutL (l.take k) a s) (l[k]).1 m1).length (bq_ (cz_ (cutL (l.take k) a s) (l[k]).1 m1)) from fun o1 o2 => ((hown3.alloc o1).alloc o2).drew)
    have hne3 : ∀ b, b < wr.heap.size + 1 → some b ≠ v.ownBlock → some b ≠ v3.ownBlock := fun b hb hn e => by
     rcases hat3 with h | ⟨g', h, hg'⟩
     · exact hn (e.trans h)
     · rw [h] at e; simp at e hg'; omega
    have K9 := h1_ (show ∀ o1 o2, (wr.heap.size < (((w3.alloc o1).alloc o2).drew).heap.size ∧ wr.heap.size ≠ w2.heap.size ∧ some wr.heap.size ≠ v3.ownBlock) ∧ (w.heap.size < (((w3.alloc o1).alloc o2).drew).heap.size ∧ w.heap.size ≠ w2.heap.size ∧ some w.heap.size ≠ v3.ownBlock) from fun o1 o2 =>
     ⟨⟨by simp; omega, (K8.out (.map #[] 0) (.map #[] 0)).1.2.1, hne3 _ (by omega) (K8.out (.map #[] 0) (.map #[] 0)).1.2.2⟩, ⟨by simp; omega, (K8.out (.map #[] 0) (.map #[] 0)).2.2.1, hne3 _ (by omega) (K8.out (.map #[] 0) (.map #[] 0)).2.2.2⟩⟩)
    have C9 := h1_ (show ∀ o1 o2, (((w3.alloc o1).alloc o2).drew).cell? ⟨wr.heap.size, 0, none⟩ = some (.int .i64 (l[k]).1) ∧ (((w3.alloc o1).alloc o2).drew).cell? ⟨wr.heap.size, 1, none⟩ = some (.int .i64 (l[k]).2) ∧ (((w3.alloc o1).alloc o2).drew).cell? ⟨w.heap.size, 0, none⟩ = some (.int .i64 a) ∧ (((w3.alloc o1).alloc o2).drew).cell? ⟨w.heap.size, 1, none⟩ = some (.int .i64 s) from fun o1 o2 =>
     have hB := (((Below.refl w3.heap.size w3).alloc (Nat.le_refl _) o1).alloc (by simp) o2).drew
     ⟨(hB.cell (p := ⟨wr.heap.size, 0, none⟩) (by simp; omega)).trans d0, (hB.cell (p := ⟨wr.heap.size, 1, none⟩) (by simp; omega)).trans d1, (hB.cell (p := ⟨w.heap.size, 0, none⟩) (by simp; omega)).trans d2, (hB.cell (p := ⟨w.heap.size, 1, none⟩) (by simp; omega)).trans d3⟩)
    have HN3 := h1_ hne3
    have HH3' := h4_ hv3 hown3 hat3 hk3
    have HL3 := h1_ hlt3
    clear hv3 hown3 hat3 hk3 hlt3 hne3
    go_wp2
    go_region_held3 (fun w' => w'.cell? ⟨wr.heap.size, 0, none⟩ = some (.int .i64 (l[k]).1) ∧ w'.cell? ⟨wr.heap.size, 1, none⟩ = some (.int .i64 (l[k]).2) ∧ w'.cell? ⟨w.heap.size, 0, none⟩ = some (.int .i64 a) ∧ w'.cell? ⟨w.heap.size, 1, none⟩ = some (.int .i64 s))
     (first | go_keep) (first | (go_at_call 236; refine (ld_ _ _ _ (by omega) (by omega)).mono ?_; rintro e w' ⟨rfl, rfl⟩) | (go_at_call 235; refine (p3_ w2.heap.size v3 (cz_ (cutL (l.take k) a s) (l[k]).1 m1) _ _ _ (by omega) (by omega) (by omega) (by omega) (by omega) (HV9.out _ _) (HO9.out _ _)).mono ?_; rintro e w4 ⟨rfl, v4, hv4, hown4, hat4, hk4⟩; have d0' := hk4.cell (K9.out _ _).1 (C9.out _ _).1; have d1' := hk4.cell (K9.out _ _).1 (C9.out _ _).2.1; have d2' := hk4.cell (K9.out _ _).2 (C9.out _ _).2.2.1; have d3' := hk4.cell (K9.out _ _).2 (C9.out _ _).2.2.2; have HH4 := h4_ hv4 hown4 hat4 hk4; clear hv4 hown4 hat4 hk4))
    all_goals
     go_wp2
     go_roundw
     case rel =>
      obtain ⟨hv4, hown4, hat4, hk4⟩ := HH4.out
      obtain ⟨hv3, hown3, hat3, hk3⟩ := HH3'.out
      obtain ⟨hv, hown, hb⟩ := HV.out
      have hlt2 := HD.out
      have hs4 := hk4.2.2.2.1
      simp at hs4
      have hs3' := hk3.2.2.2.1
      simp at hs3'
      refine ⟨k + 1, v4, by omega, by go_num, hv4, ?_, ?_⟩
      · rw [sy_ l a s k hlt, ← min_g, ← max_g, hm1, hm2]
        refine gx_ hown4 fun g' hg' => ?_
        rcases hat4 with h | ⟨g2, h, h'⟩
        · rcases hat3 with h3 | ⟨g3, h3, h3'⟩
          · rw [h, h3] at hg'
            exact (hlt2 _ hg').1
          · rw [h, h3] at hg'; simp at hg' h3'; omega
        · rw [h] at hg'; simp at hg' h'; omega
      · have b1 : Below w2.heap.size (((wr.alloc (.cells #[.int .i64 (l[k]).1, .int .i64 (l[k]).2] 67)).alloc (.cells #[.int .i64 (l[k]).1, .int .i64 (l[k]).2] 67)).drew) w3 :=
         hk3.below fun b hb => ⟨by simp; omega, by omega, fun e => by have := (hlt2 _ e.symm).1; omega⟩
        have b2 := hk4.below (B := w2.heap.size) fun b hb => ⟨by simp; omega, by omega, HN3.out b (by omega) fun e => by have := (hlt2 _ e.symm).1; omega⟩
        exact hb.trans (((HB8.out _ _).mono (by omega)).trans (b1.trans ((((Below.refl _ _).alloc (by omega) _).alloc (by simp; omega) _).drew.trans b2)))
     case measure => simp [RowKit.intOf]; omega
  · have hkl : k = l.length := by omega
    have hc := cell_of_one hv
    have HV := h3_ hv hown hb
    clear hv hown hb
    go_wp2
    go_ret
    obtain ⟨hv, hown, hb⟩ := HV.out
    refine ⟨hbx.trans (hb.mono (by omega)), v, rfl, ?_⟩
    rw [hkl, List.take_length] at hown
    exact gx_ hown fun g' hg' => by have := (hown.lt _ hg').1; omega
theorem cut_nil (a s : Int) (w : World) (hs : fh_ a s = true) (hs0 : 0 < s) :
 Calls Tryz.prog 157 #[.slice none 0 0, mb_ a s] w fun e w' => Below w.heap.size w w' ∧ e = .returned (.slice none 0 0) := by
 have hz : (s == 0) = false := by simp; omega
 go_enter Tryz.func157, Tryz.ntmps157
 go_wp2_with (first
  | (go_at_call 233; refine (md_ _).mono ?_; rintro e w1 ⟨rfl, hb1⟩; have hn1 := b9_ hb1; have c0 := al_ hn1 0 rfl; have c1 := al_ hn1 1 rfl; have HN1 := h1_ hn1; clear hn1)
  | (go_at_call 234; refine (le_ a s hs _).mono ?_; rintro e w2 ⟨rfl, hb2⟩; have c2 := (hd_ hb2).1 w.heap.size 0 (by have := hb1.size; simp at this; omega); have c3 := (hd_ hb2).1 w.heap.size 1 (by have := hb1.size; simp at this; omega); rw [c0] at c2; rw [c1] at c3))
 refine wp_loop_rounds 1 ?_
 rw [rounds_succ]
 have hsz1 := hb1.size
 simp at hsz1
 have hbx : Below w.heap.size w w2 := ((Below.refl _ _).alloc (Nat.le_refl _) _).trans ((hb1.mono (by simp)).trans (hb2.mono (by omega)))
 go_wp2
 go_ret
 exact ⟨hbx.alloc (by have := hb2.size; omega) _, rfl⟩
theorem cut_any (v : Value) (l : List (Int × Int)) (a s : Int) (w : World) (hR : cs_ l) (hcap : l.length ≤ 100000)
 (hown : w.ownsRow 0 67 2 v l.length (bq_ l)) (hs : fh_ a s = true) (hs0 : 0 < s) :
 Calls Tryz.prog 157 #[v, mb_ a s] w fun e w' => Below w.heap.size w w' ∧
  ∃ v, e = .returned v ∧ w'.ownsRow w.heap.size 67 2 v (cutL l a s).length (bq_ (cutL l a s)) := by
 rcases hown.2 with ⟨rfl, h⟩ | ⟨g, cap, cur, rfl, _, hg, _⟩
 · obtain rfl : l = [] := List.eq_nil_of_length_eq_zero h
   exact (cut_nil a s w hs hs0).mono fun e w' ⟨h1, h2⟩ => ⟨h1, _, h2, World.ownsRow_nil _ _ _ _⟩
 · exact cut_row g cap l a s w hR (lt_of_block hg) hcap (fun j u hj => by have := hown.cells (g := g) rfl j u hj; simpa [fs_] using this) hs hs0
end
section
open Go.RowKit
attribute [local go_sem] ak_ af_
def fitL (size : Int) : List (Int × Int) → Option Int
 | [] => none
 | x :: l => if upI x.1 256 + size ≤ min (x.1 + x.2) 1099511627776 then some (upI x.1 256) else fitL size l
theorem me_ (size : Int) (l : List (Int × Int)) (k : Nat) (h : k < l.length) :
 fitL size (l.drop k) = if upI (l[k]).1 256 + size ≤ min ((l[k]).1 + (l[k]).2) 1099511627776 then some (upI (l[k]).1 256) else fitL size (l.drop (k + 1)) := by
 rw [List.drop_eq_getElem_cons h]; rfl
theorem mf_ (n : Int) : n ≤ upI n 256 ∧ upI n 256 < n + 256 := by unfold upI; split <;> omega
theorem fit_row (g cap : Nat) (l : List (Int × Int)) (size : Int) (w : World) (hR : cs_ l) (hg0 : g < w.heap.size) (hcap : l.length ≤ 100000)
 (hc : ∀ j u, (bq_ l)[j]? = some u → w.cell? ⟨g, j, none⟩ = some u) (hs : 1 ≤ size) (hs' : size ≤ 1099511627776) :
 Calls Tryz.prog 158 #[.slice (some ⟨g, 0, none⟩) l.length cap, .int .i64 size, .int .i64 256, .int .i64 0, .int .i64 1099511627776] w fun e w' =>
  e = .returned (.tuple #[.int .i64 ((fitL size l).getD 0), .bool (fitL size l).isSome]) ∧ Below w.heap.size w w' := by
 have HC := h1_ hc
 have HR := h1_ hR
 clear hc hR
 go_enter Tryz.func158, Tryz.ntmps158
 go_wp2_with (first
  | (go_at_call 233; refine (mc_ g cap l _ HR.out (by omega) HC.out).mono ?_; rintro e w1 ⟨rfl, hb1⟩))
 have hs1 := hb1.size
 have HB1 := h1_ hb1
 clear hb1
 go_loopw [40] (fun i wr => ∃ k : Nat, k ≤ l.length ∧ i = .int .i64 k ∧ fitL size l = fitL size (l.drop k) ∧ Below w.heap.size w wr) (fun i _ => l.length - (RowKit.intOf i).toNat)
 case atStart => exact ⟨0, Nat.zero_le _, rfl, by simp, HB1.out⟩
 case round =>
  obtain ⟨k, hk, rfl, hfit, hb⟩ := hrel
  have HF := h1_ hfit
  clear hfit
  by_cases hlt : k < l.length
  · obtain ⟨h1a, h1b, h1c⟩ := HR.out.at k hlt
    have hgr : g < wr.heap.size := Nat.lt_of_lt_of_le hg0 hb.size
    have c0 : wr.cell? ⟨g, k * 2, none⟩ = some (.int .i64 (l[k]).1) := (hb.cell (p := ⟨g, k * 2, none⟩) hg0).trans (HC.out _ _ (cg_ l k hlt).1)
    have c1 : wr.cell? ⟨g, k * 2 + 1, none⟩ = some (.int .i64 (l[k]).2) := (hb.cell (p := ⟨g, k * 2 + 1, none⟩) hg0).trans (HC.out _ _ (cg_ l k hlt).2)
    have hu := mf_ (l[k]).1
    have HB := h1_ hb
    clear hb
    have hm0 : (if (l[k]).1 < 0 then 0 else (l[k]).1) = (l[k]).1 := by split <;> omega
    go_wp2_with (first
     | (go_at_call 105; refine (i6_ _ _ _ (by omega) (by omega) (by omega) (by omega)).mono ?_; rintro e w2 ⟨rfl, rfl⟩)
     | (go_at_call 236; refine (ld_ _ _ _ (by omega) (by omega)).mono ?_; rintro e w2 ⟨rfl, rfl⟩))
    · have hf : fitL size l = some (upI (l[k]).1 256) := by
       rw [HF.out, me_ size l k hlt, if_pos (by omega)]
      go_ret2
      exact ⟨by rw [hf]; rfl, HB.out.trans (((Below.refl _ _).alloc HB.out.size _).alloc (by have := HB.out.size; simp; omega) _)⟩
    · go_roundw
      case rel =>
       refine ⟨k + 1, by omega, by go_num, ?_, HB.out.trans (((Below.refl _ _).alloc HB.out.size _).alloc (by have := HB.out.size; simp; omega) _)⟩
       rw [HF.out, me_ size l k hlt, if_neg (by omega)]
      case measure => simp [RowKit.intOf]; omega
  · have hf : fitL size l = none := by rw [HF.out, show k = l.length by omega]; simp [fitL]
    have HB := h1_ hb
    have HFF := h1_ hf
    clear hb hf
    go_wp2
    go_ret2
    exact ⟨by rw [HFF.out]; rfl, HB.out⟩
theorem fit_nil (size : Int) (w : World) (hs : 1 ≤ size) (hs' : size ≤ 1099511627776) :
 Calls Tryz.prog 158 #[.slice none 0 0, .int .i64 size, .int .i64 256, .int .i64 0, .int .i64 1099511627776] w fun e w' =>
  e = .returned (.tuple #[.int .i64 0, .bool false]) ∧ Below w.heap.size w w' := by
 go_enter Tryz.func158, Tryz.ntmps158
 go_wp2_with (first
  | (go_at_call 233; refine (md_ _).mono ?_; rintro e w1 ⟨rfl, hb1⟩))
 refine wp_loop_rounds 1 ?_
 rw [rounds_succ]
 go_wp2
 go_ret2
 exact ⟨rfl, hb1⟩
theorem lf_ (v : Value) (l : List (Int × Int)) (size : Int) (w : World) (hR : cs_ l) (hcap : l.length ≤ 100000)
 (hown : w.ownsRow 0 67 2 v l.length (bq_ l)) (hs : 1 ≤ size) (hs' : size ≤ 1099511627776) :
 Calls Tryz.prog 158 #[v, .int .i64 size, .int .i64 256, .int .i64 0, .int .i64 1099511627776] w fun e w' =>
  e = .returned (.tuple #[.int .i64 ((fitL size l).getD 0), .bool (fitL size l).isSome]) ∧ Below w.heap.size w w' := by
 rcases hown.2 with ⟨rfl, h⟩ | ⟨g, cap, cur, rfl, _, hg, _⟩
 · obtain rfl : l = [] := List.eq_nil_of_length_eq_zero h
   exact fit_nil size w hs hs'
 · exact fit_row g cap l size w hR (lt_of_block hg) hcap (fun j u hj => by have := hown.cells (g := g) rfl j u hj; simpa [fs_] using this) hs hs'
end
section
open Go.RowKit
def em_ (l : List (Int × Int)) (b : Int) : Prop := ∀ y ∈ l, y.1 + y.2 < b
theorem ra_ {l : List (Int × Int)} (h : cs_ l) {f u : Int} (he : em_ l f) (h0 : 0 ≤ f) (h1 : f < u) (h2 : u ≤ 1099511627776) : cs_ (l ++ [(f, u - f)]) := by
 induction l with
 | nil => exact ⟨h0, by simp; omega, by simp; omega⟩
 | cons x l ih =>
  cases l with
  | nil =>
   have hx := he x (by simp)
   exact ⟨h.1, h.2.1, hx, h0, by simp; omega, by simp; omega⟩
  | cons y l =>
   exact ⟨h.1, h.2.1, h.2.2.1, ih h.2.2.2 (fun z hz => he z (List.mem_cons_of_mem _ hz))⟩
theorem i8_ {l : List (Int × Int)} (h : cs_ l) {f u : Int} (he : em_ l f) (h0 : 0 ≤ f) (h2 : u ≤ 1099511627776) : cs_ (cz_ l f u) := by
 unfold cz_; split
 · exact ra_ h he h0 (by assumption) h2
 · exact h
theorem hu_ {l : List (Int × Int)} {f u b : Int} (he : em_ l b) (hu : u < b) : em_ (cz_ l f u) b := by
 unfold cz_; split
 · intro y hy
   rcases List.mem_append.1 hy with hy | hy
   · exact he y hy
   · simp at hy; subst hy; simp; omega
 · exact he
theorem em_.mono {l : List (Int × Int)} {b b' : Int} (h : em_ l b) (hb : b ≤ b') : em_ l b' := fun y hy => by have := h y hy; omega
theorem rb_ {l : List (Int × Int)} (h : cs_ l) {a s : Int} (ha : 0 ≤ a) (hs : 0 < s) : cs_ (cutL l a s) := by
 have H : ∀ (l acc : List (Int × Int)), cs_ l → cs_ acc → (∀ x, l.head? = some x → em_ acc x.1) →
  cs_ (l.foldl (fun acc x => cz_ (cz_ acc x.1 (min (x.1 + x.2) a)) (max x.1 (a + s)) (x.1 + x.2)) acc) := by
  intro l
  induction l with
  | nil => intro acc _ h _; exact h
  | cons x l ih =>
   intro acc hl hacc he
   have hx := hl.at 0 (by simp)
   simp at hx
   have hex := he x rfl
   have e1 : em_ (cz_ acc x.1 (min (x.1 + x.2) a)) (max x.1 (a + s)) := hu_ (hex.mono (by omega)) (by omega)
   have r1 := i8_ hacc (u := min (x.1 + x.2) a) hex hx.1 (by omega)
   have r2 := i8_ r1 (u := x.1 + x.2) e1 (by omega) (by omega)
   refine ih _ ?_ r2 ?_
   · cases l with
     | nil => trivial
     | cons y l => exact hl.2.2.2
   · intro y hy
     cases l with
     | nil => simp at hy
     | cons z l =>
      simp at hy; subst hy
      have hgap := hl.2.2.1
      refine hu_ ?_ hgap
      exact hu_ (hex.mono (by omega)) (by omega)
 exact H l [] h trivial (fun _ _ y hy => by simp at hy)
theorem fz_ (l : List (Int × Int)) (f u : Int) : (cz_ l f u).length ≤ l.length + 1 ∧ (u ≤ f → cz_ l f u = l) := by
 unfold cz_; split
 · exact ⟨by simp, fun h => by omega⟩
 · exact ⟨by omega, fun _ => rfl⟩
theorem cs_.tail {x : Int × Int} {l : List (Int × Int)} (h : cs_ (x :: l)) : cs_ l := by
 cases l with
 | nil => trivial
 | cons y l => exact h.2.2.2
theorem cs_.above {x : Int × Int} {l : List (Int × Int)} (h : cs_ (x :: l)) : ∀ y ∈ l, x.1 + x.2 < y.1 := by
 induction l generalizing x with
 | nil => intro y hy; simp at hy
 | cons z l ih =>
  intro y hy
  have h1 := h.2.2.1
  have hz := h.2.2.2.at 0 (by simp)
  simp at hz
  rcases List.mem_cons.1 hy with rfl | hy
  · exact h1
  · have := ih h.2.2.2 y hy
    omega
theorem wa_ {l : List (Int × Int)} (h : cs_ l) {a s : Int} (hs : 0 < s) : (cutL l a s).length ≤ l.length + 1 := by
 have G : ∀ (l acc : List (Int × Int)), (∀ y ∈ l, a ≤ y.1) →
  (l.foldl (fun acc x => cz_ (cz_ acc x.1 (min (x.1 + x.2) a)) (max x.1 (a + s)) (x.1 + x.2)) acc).length ≤ acc.length + l.length := by
  intro l
  induction l with
  | nil => intro acc _; simp
  | cons x l ih =>
   intro acc hy
   simp only [List.foldl_cons, List.length_cons]
   have hx := hy x (by simp)
   rw [(fz_ acc x.1 (min (x.1 + x.2) a)).2 (by omega)]
   have := ih (cz_ acc (max x.1 (a + s)) (x.1 + x.2)) (fun y hy' => hy y (List.mem_cons_of_mem _ hy'))
   have := (fz_ acc (max x.1 (a + s)) (x.1 + x.2)).1
   omega
 have H : ∀ (l acc : List (Int × Int)), cs_ l →
  (l.foldl (fun acc x => cz_ (cz_ acc x.1 (min (x.1 + x.2) a)) (max x.1 (a + s)) (x.1 + x.2)) acc).length ≤ acc.length + l.length + 1 := by
  intro l
  induction l with
  | nil => intro acc _; simp
  | cons x l ih =>
   intro acc hl
   simp only [List.foldl_cons, List.length_cons]
   by_cases hc : a + s < x.1 + x.2
   · have := G l (cz_ (cz_ acc x.1 (min (x.1 + x.2) a)) (max x.1 (a + s)) (x.1 + x.2)) (fun y hy => by have := hl.above y hy; omega)
     have h1 := (fz_ (cz_ acc x.1 (min (x.1 + x.2) a)) (max x.1 (a + s)) (x.1 + x.2)).1
     have h2 := (fz_ acc x.1 (min (x.1 + x.2) a)).1
     omega
   · rw [(fz_ (cz_ acc x.1 (min (x.1 + x.2) a)) (max x.1 (a + s)) (x.1 + x.2)).2 (by omega)]
     have := ih (cz_ acc x.1 (min (x.1 + x.2) a)) hl.tail
     have h2 := (fz_ acc x.1 (min (x.1 + x.2) a)).1
     omega
 simpa [cutL] using H l [] h
end
section
open Go.RowKit
attribute [local go_sem] ak_ af_
def cmpI (x y : Int) : Int := if x < y then -1 else if x > y then 1 else 0
theorem ol_ (x y : Int) (w : World) :
 Calls Tryz.prog 211 #[.int .i64 x, .int .i64 y] w fun e w' => e = .returned (.int .i64 (cmpI x y)) ∧ w = w' := by
 rcases Int.lt_trichotomy x y with h | h | h
 · go_enter Tryz.func211, Tryz.ntmps211
   go_wp2
   go_ret
   exact ⟨fg_ (by unfold cmpI; split <;> omega), rfl⟩
 · subst h
   go_enter Tryz.func211, Tryz.ntmps211
   go_wp2
   go_ret
   exact ⟨fg_ (by unfold cmpI; split <;> (try split) <;> omega), rfl⟩
 · go_enter Tryz.func211, Tryz.ntmps211
   go_wp2
   go_ret
   exact ⟨fg_ (by unfold cmpI; split <;> (try split) <;> omega), rfl⟩
structure Part where
 at_ : Int
 size : Int
 kind : Int
 owner : Int
 mod : Int
 blk : Nat
 cap : Nat
 data : List UInt8
 deriving Inhabited
def f0_ (p : Part) : List Value := [.int .i64 p.at_, .int .i64 p.size, .int .i64 p.kind, .int .i64 p.owner, .int .i64 p.mod]
def fi_ (p : Part) : Value := .slice (some ⟨p.blk, 0, none⟩) p.size.toNat p.cap
def bw_ (p : Part) : List Value := f0_ p ++ [fi_ p]
abbrev i9_ (p : Part) : Value := .agg #[.int .i64 p.at_, .int .i64 p.size, .int .i64 p.kind, .int .i64 p.owner, .int .i64 p.mod, fi_ p]
def bb_ (ps : List Part) : List Value := ps.flatMap bw_
theorem dr_ (ps : List Part) : ∀ i (hi : i < ps.length) j, j < 6 → (bb_ ps)[i * 6 + j]? = (bw_ ps[i])[j]? := by
 induction ps with
 | nil => intro i hi; simp at hi
 | cons x l ih =>
  intro i hi j hj
  have e : bb_ (x :: l) = bw_ x ++ bb_ l := rfl
  have hl : (bw_ x).length = 6 := rfl
  cases i with
  | zero => rw [e, List.getElem?_append_left (by rw [hl]; omega)]; simp
  | succ i =>
   rw [e, List.getElem?_append_right (by rw [hl]; omega), hl, show (i + 1) * 6 + j - 6 = i * 6 + j by omega, ih i (by simpa using hi) j hj]
   simp
theorem g6_ (p : Part) (a : Int) (w : World) :
 Calls Tryz.prog 238 #[i9_ p, .int .i64 a] w fun e w' => e = .returned (.int .i64 (cmpI p.at_ a)) ∧ Below w.heap.size w w' := by
 unfold i9_ fi_
 go_enter Tryz.func238, Tryz.ntmps238
 go_wp2_with (go_at_call 211; refine (ol_ _ _ _).mono ?_; rintro e w' ⟨rfl, rfl⟩)
 go_ret
 exact ⟨rfl, (Below.refl _ _).alloc (Nat.le_refl _) _⟩
def en_ (w : World) (g : Nat) (ps : List Part) : Prop := ∀ j u, (bb_ ps)[j]? = some u → w.cell? ⟨g, j, none⟩ = some u
theorem en_.six {w : World} {g : Nat} {ps : List Part} (h : en_ w g ps) (i : Nat) (hi : i < ps.length) :
 w.cell? ⟨g, i * 6, none⟩ = some (.int .i64 (ps[i]).at_) ∧ w.cell? ⟨g, i * 6 + 1, none⟩ = some (.int .i64 (ps[i]).size) ∧ w.cell? ⟨g, i * 6 + 2, none⟩ = some (.int .i64 (ps[i]).kind) ∧
 w.cell? ⟨g, i * 6 + 3, none⟩ = some (.int .i64 (ps[i]).owner) ∧ w.cell? ⟨g, i * 6 + 4, none⟩ = some (.int .i64 (ps[i]).mod) ∧ w.cell? ⟨g, i * 6 + 5, none⟩ = some (fi_ ps[i]) :=
 ⟨h _ _ (dr_ ps i hi 0 (by omega)), h _ _ (dr_ ps i hi 1 (by omega)), h _ _ (dr_ ps i hi 2 (by omega)), h _ _ (dr_ ps i hi 3 (by omega)), h _ _ (dr_ ps i hi 4 (by omega)), h _ _ (dr_ ps i hi 5 (by omega))⟩
theorem en_.lt {w : World} {g : Nat} {ps : List Part} (h : en_ w g ps) (hn : ps ≠ []) : g < w.heap.size := by
 obtain ⟨x, l', rfl⟩ := List.exists_cons_of_ne_nil hn
 exact World.block_lt_of_cell? w _ (h 0 (.int .i64 x.at_) rfl)
theorem en_.below {w w' : World} {g : Nat} {ps : List Part} {B : Nat} (h : en_ w g ps) (hb : Below B w w') (hg : g < B) : en_ w' g ps :=
 fun j u hu => (hb.cell (p := ⟨g, j, none⟩) hg).trans (h j u hu)
def lg_ (ps : List Part) : Prop := ∀ i j (hi : i < ps.length) (hj : j < ps.length), i < j → (ps[i]).at_ < (ps[j]).at_
theorem om_ (g cap : Nat) (ps : List Part) (a : Int) (w : World) (hg0 : g < w.heap.size) (hlen : ps.length ≤ 5000) (hs : lg_ ps) (hc : en_ w g ps) :
 Calls Tryz.prog 237 #[.slice (some ⟨g, 0, none⟩) ps.length cap, .int .i64 a, .func (.func 238) #[] #[]] w fun e w' =>
  Below w.heap.size w w' ∧ ∃ i : Nat, i ≤ ps.length ∧ (∀ j (hj : j < ps.length), j < i → (ps[j]).at_ < a) ∧ (∀ j (hj : j < ps.length), i ≤ j → a ≤ (ps[j]).at_) ∧
   e = .returned (.tuple #[.int .i64 i, .bool (decide (∃ h : i < ps.length, (ps[i]).at_ = a))]) := by
 have HS := h1_ hs
 have HC := h1_ hc
 clear hs hc
 go_enter Tryz.func237, Tryz.ntmps237
 go_wp2
 go_loopw [9, 10] (fun i j wr => ∃ lo hi : Nat, lo ≤ hi ∧ hi ≤ ps.length ∧ i = .int .i64 lo ∧ j = .int .i64 hi ∧ (∀ j (hj : j < ps.length), j < lo → (ps[j]).at_ < a) ∧ (∀ j (hj : j < ps.length), hi ≤ j → a ≤ (ps[j]).at_) ∧ Below w.heap.size w wr)
  (fun i j _ => (RowKit.intOf j - RowKit.intOf i).toNat)
 case atStart => exact ⟨0, ps.length, Nat.zero_le _, Nat.le_refl _, rfl, rfl, fun _ _ h => by omega, fun _ _ h => by omega, Below.refl _ _⟩
 case round =>
  obtain ⟨lo, hi, h1, h2, rfl, rfl, h3, h4, hb⟩ := hrel
  have HI := h2_ h3 h4
  clear h3 h4
  by_cases hlt : lo < hi
  · have hml : (lo + hi) / 2 < ps.length := by omega
    obtain ⟨p, hp⟩ : ∃ p, p = ps[(lo + hi) / 2] := ⟨_, rfl⟩
    obtain ⟨d0, d1, d2, d3, d4, d5⟩ := (HC.out.below hb hg0).six ((lo + hi) / 2) hml
    rw [← hp] at d0 d1 d2 d3 d4 d5
    have hcmp : (cmpI p.at_ a < 0 ↔ p.at_ < a) := by unfold cmpI; split <;> (try split) <;> omega
    have hb' := hb.size
    have HM := h3_ hp hcmp hb
    clear hp hcmp hb
    by_cases hca : cmpI p.at_ a < 0
    · go_wp2_with (go_at_call 238; refine (g6_ _ _ _).mono ?_; rintro e w2 ⟨rfl, hb2⟩)
      go_roundw
      case rel =>
       obtain ⟨hp, hcmp, hb⟩ := HM.out
       obtain ⟨h3, h4⟩ := HI.out
       refine ⟨(lo + hi) / 2 + 1, hi, by omega, by omega, by go_num, rfl, fun j hj hlj => ?_, h4, hb.trans (hb2.mono hb')⟩
       have := hcmp.1 hca
       rw [hp] at this
       by_cases e : j = (lo + hi) / 2
       · subst e; exact this
       · have := HS.out j ((lo + hi) / 2) hj hml (by omega)
         omega
      case measure => simp [RowKit.intOf]; omega
    · go_wp2_with (go_at_call 238; refine (g6_ _ _ _).mono ?_; rintro e w2 ⟨rfl, hb2⟩)
      go_roundw
      case rel =>
       obtain ⟨hp, hcmp, hb⟩ := HM.out
       obtain ⟨h3, h4⟩ := HI.out
       refine ⟨lo, (lo + hi) / 2, by omega, by omega, rfl, by go_num, h3, fun j hj hlj => ?_, hb.trans (hb2.mono hb')⟩
       have : ¬ p.at_ < a := fun h => by have := hcmp.2 h; omega
       rw [hp] at this
       by_cases e : j = (lo + hi) / 2
       · subst e; omega
       · have := HS.out ((lo + hi) / 2) j hml hj (by omega)
         omega
      case measure => simp [RowKit.intOf]; omega
  · have e : hi = lo := by omega
    subst e
    by_cases hl : hi < ps.length
    · obtain ⟨p, hp⟩ : ∃ p, p = ps[hi] := ⟨_, rfl⟩
      obtain ⟨d0, d1, d2, d3, d4, d5⟩ := (HC.out.below hb hg0).six hi hl
      rw [← hp] at d0 d1 d2 d3 d4 d5
      have hcmp : (cmpI p.at_ a == 0) = decide (p.at_ = a) := by
       rw [Bool.eq_iff_iff]; unfold cmpI; simp; split <;> (try split) <;> simp <;> omega
      have hb' := hb.size
      have HM := h3_ hp hcmp hb
      clear hp hcmp hb
      go_wp2_with (go_at_call 238; refine (g6_ _ _ _).mono ?_; rintro e w2 ⟨rfl, hb2⟩)
      go_ret2
      obtain ⟨hp, hcmp, hb⟩ := HM.out
      obtain ⟨h3, h4⟩ := HI.out
      refine ⟨hb.trans (hb2.mono hb'), hi, by omega, h3, h4, ?_⟩
      rw [hcmp, hp]
      simp [hl]
    · have HB := h1_ hb
      clear hb
      go_wp2
      go_ret2
      obtain ⟨h3, h4⟩ := HI.out
      exact ⟨HB.out, hi, by omega, h3, h4, by simp [hl]⟩
end
section
open Go.RowKit
attribute [local go_sem] ak_ af_
def byteCells (l : List UInt8) : List Value := l.map fun b => .int .u8 (b.toNat : Int)
def on_ (w : World) (ps : List Part) : Prop :=
 (ps.map (·.blk)).Nodup ∧ ∀ p ∈ ps, (p.data.length : Int) = p.size ∧ p.data.length ≤ p.cap ∧ ∃ cur, w.heap[p.blk]? = some (.cells cur 5 (0, 0)) ∧ cur.size = p.cap ∧ cur.toList.take p.data.length = byteCells p.data
structure SpaceAt (w : World) (s : Nat) (pv : Value) (ps : List Part) : Prop where
 head : w.heap[s]? = some (.cells #[pv] 159 (0, 0))
 row : w.ownsRow 0 302 6 pv ps.length (bb_ ps)
 bytes : on_ w ps
structure AreasOk (ps : List Part) : Prop where
 each : ∀ p ∈ ps, 256 ≤ p.at_ ∧ p.at_ % 256 = 0 ∧ 1 ≤ p.size ∧ p.size ≤ 1048576 ∧ p.at_ + p.size ≤ 1099511627776
 apart : ∀ i j (hi : i < ps.length) (hj : j < ps.length), i < j → (ps[i]).at_ + (ps[i]).size ≤ (ps[j]).at_
 few : ps.length ≤ 4096
theorem AreasOk.sorted {ps : List Part} (h : AreasOk ps) : lg_ ps := fun i j hi hj hij => by
 have := h.apart i j hi hj hij
 have := (h.each _ (List.getElem_mem hi)).2.2.1
 omega
theorem SpaceAt.parts {w : World} {s : Nat} {pv : Value} {ps : List Part} (h : SpaceAt w s pv ps) (hn : ps ≠ []) :
 ∃ g cap, pv = .slice (some ⟨g, 0, none⟩) ps.length cap ∧ ps.length ≤ cap ∧ cap ≤ maxLen ∧ en_ w g ps := by
 rcases h.row.2 with ⟨rfl, h0⟩ | ⟨g, cap, cur, rfl, _, hg, h1, h2, _⟩
 · exact absurd (List.eq_nil_of_length_eq_zero h0) hn
 · exact ⟨g, cap, rfl, h1, h2, fun j u hj => by have := h.row.cells (g := g) rfl j u hj; simpa [fs_] using this⟩
theorem SpaceAt.below {w w' : World} {s : Nat} {pv : Value} {ps : List Part} (h : SpaceAt w s pv ps) (hb : Below w.heap.size w w') : SpaceAt w' s pv ps := by
 refine ⟨at_b hb h.head, ⟨h.row.1, ?_⟩, h.bytes.1, fun p hp => ?_⟩
 · rcases h.row.2 with h2 | ⟨g, cap, cur, rfl, h0, hg, r⟩
   · exact .inl h2
   · exact .inr ⟨g, cap, cur, rfl, h0, at_b hb hg, r⟩
 · obtain ⟨h1, h2, cur, h3, h4⟩ := h.bytes.2 p hp
   exact ⟨h1, h2, cur, at_b hb h3, h4⟩
def gy_ (l : List (Int × Int)) (p : Part) : List (Int × Int) := cutL l (p.at_ - 256) (min 1099511627776 (upI (p.at_ + p.size) 256 + 256) - (p.at_ - 256))
def e8_ (ps : List Part) : List (Int × Int) := ps.foldl gy_ [(512, 1099511627264)]
def oo_ (ps : List Part) (size : Int) : Int := (fitL (upI (max 1 size) 256) (e8_ ps)).getD (-1)
theorem rc_ (ps : List Part) (k : Nat) (h : k < ps.length) : e8_ (ps.take (k + 1)) = gy_ (e8_ (ps.take k)) ps[k] := by
 unfold e8_
 rw [List.take_succ_eq_append_getElem h, List.foldl_append]
 rfl
theorem p4_ {ps : List Part} (h : ∀ p ∈ ps, 256 ≤ p.at_ ∧ p.at_ % 256 = 0 ∧ 1 ≤ p.size ∧ p.size ≤ 1048576 ∧ p.at_ + p.size ≤ 1099511627776) : cs_ (e8_ ps) ∧ (e8_ ps).length ≤ ps.length + 1 := by
 have H : ∀ (ps : List Part) (l : List (Int × Int)), (∀ p ∈ ps, 256 ≤ p.at_ ∧ p.at_ % 256 = 0 ∧ 1 ≤ p.size ∧ p.size ≤ 1048576 ∧ p.at_ + p.size ≤ 1099511627776) → cs_ l →
  cs_ (ps.foldl gy_ l) ∧ (ps.foldl gy_ l).length ≤ l.length + ps.length := by
  intro ps
  induction ps with
  | nil => intro l _ h; exact ⟨h, by simp⟩
  | cons p ps ih =>
   intro l hp hl
   have h1 := hp p (by simp)
   have hu := mf_ (p.at_ + p.size)
   have r := rb_ hl (a := p.at_ - 256) (s := min 1099511627776 (upI (p.at_ + p.size) 256 + 256) - (p.at_ - 256)) (by omega) (by omega)
   have n := wa_ hl (a := p.at_ - 256) (s := min 1099511627776 (upI (p.at_ + p.size) 256 + 256) - (p.at_ - 256)) (by omega)
   have := ih (gy_ l p) (fun q hq => hp q (List.mem_cons_of_mem _ hq)) r
   refine ⟨this.1, ?_⟩
   have := this.2
   simp only [List.foldl_cons, List.length_cons]
   unfold gy_ at *
   omega
 have := H ps [(512, 1099511627264)] h ⟨by decide, by decide, by decide⟩
 exact ⟨this.1, by have := this.2; simp at this; unfold e8_; omega⟩
theorem wb_ (s g cap : Nat) (ps : List Part) (size : Int) (w : World) (hA : AreasOk ps) (hsp : SpaceAt w s (.slice (some ⟨g, 0, none⟩) ps.length cap) ps) (hs : size ≤ 1099511627776) (hs' : -1099511627776 ≤ size) :
 Calls Tryz.prog 68 #[.pointer (some ⟨s, 0, none⟩), .int .i64 size] w fun e w' =>
  e = .returned (.int .i64 (oo_ ps size)) ∧ Below w.heap.size w w' := by
 have hc := cell_of_one hsp.head
 have hlt := lt_of_block hsp.head
 have hP : en_ w g ps := fun j u hj => by have := hsp.row.cells (g := g) rfl j u hj; simpa [fs_] using this
 have hg0 : g < w.heap.size := (hsp.row.lt g rfl).2
 have hlen := hA.few
 have hm1 : (if (1 : Int) < size then size else 1) = max 1 size := max_g 1 size
 have hup := mf_ (max 1 size)
 have hup2 : upI (max 1 size) 256 ≤ 1099511627776 := by unfold upI; split <;> omega
 have HA := h1_ hA
 have HP := h1_ hP
 have HS := h1_ hsp
 clear hA hP hsp
 go_enter Tryz.func68, Tryz.ntmps68
 go_wp2_with (first
  | (go_at_call 105; refine (i6_ _ _ _ (by omega) (by omega) (by omega) (by omega)).mono ?_; rintro e w2 ⟨rfl, rfl⟩))
 go_loopw [5, 24] (fun v i wr => ∃ k : Nat, k ≤ ps.length ∧ i = .int .i64 k ∧ wr.ownsRow 0 67 2 v (e8_ (ps.take k)).length (bq_ (e8_ (ps.take k))) ∧ Below w.heap.size w wr) (fun _ i _ => ps.length - (RowKit.intOf i).toNat)
 case atStart =>
  refine ⟨0, Nat.zero_le _, rfl, ?_, (Below.refl _ _).alloc (Nat.le_refl _) _⟩
  rw [List.take_zero]
  exact ⟨rfl, .inr ⟨w.heap.size, 1, _, rfl, Nat.zero_le _, heap_alloc_new w _, by decide, by decide, rfl, rfl⟩⟩
 case round =>
  obtain ⟨k, hk, rfl, hown, hb⟩ := hrel
  have hok := p4_ (ps := ps.take k) (fun p hp => HA.out.each p (List.mem_of_mem_take hp))
  have hkl : (ps.take k).length ≤ k := List.length_take_le _ _
  by_cases hlt : k < ps.length
  · obtain ⟨p, hp⟩ : ∃ p, p = ps[k] := ⟨_, rfl⟩
    obtain ⟨d0, d1, d2, d3, d4, d5⟩ := (HP.out.below hb hg0).six k hlt
    rw [← hp] at d0 d1 d2 d3 d4 d5
    unfold fi_ at d5
    obtain ⟨e1, e2, e3, e4, e5⟩ := HA.out.each p (by rw [hp]; exact List.getElem_mem hlt)
    have hu := mf_ (p.at_ + p.size)
    have hm2 := min_g 1099511627776 (upI (p.at_ + p.size) 256 + 256)
    have hv : fh_ (p.at_ - 256) (min 1099511627776 (upI (p.at_ + p.size) 256 + 256) - (p.at_ - 256)) = true := by simp [fh_]; omega
    have hv0 : 0 < min 1099511627776 (upI (p.at_ + p.size) 256 + 256) - (p.at_ - 256) := by omega
    have HH := h4_ hp hok hown hb
    have HV := h2_ hv hv0
    have hwr := hb.size
    clear hp hok hown hb hv hv0 e2
    go_wp2_with (first
     | (go_at_call 105; refine (i6_ _ _ _ (by omega) (by omega) (by omega) (by omega)).mono ?_; rintro e w2 ⟨rfl, rfl⟩)
     | (go_at_call 157; refine (cut_any _ (e8_ (ps.take k)) _ _ _ HH.out.2.1.1 (by have := HH.out.2.1.2; omega) (HH.out.2.2.1.alloc _) HV.out.1 HV.out.2).mono ?_; rintro e w3 ⟨hb3, v3, rfl, hown3⟩))
    go_roundw
    case rel =>
     obtain ⟨hp, hok, hown, hb⟩ := HH.out
     refine ⟨k + 1, by omega, by go_num, ?_, (hb.alloc hwr _).trans (hb3.mono (by simp; omega))⟩
     rw [rc_ ps k hlt, ← hp]
     exact gx_ hown3 (fun _ _ => Nat.zero_le _)
    case measure => simp [RowKit.intOf]; omega
  · obtain rfl : k = ps.length := by omega
    rw [List.take_length] at hown hok
    have HH := h3_ hok hown hb
    clear hok hown hb
    by_cases hsome : (fitL (upI (max 1 size) 256) (e8_ ps)).isSome = true
    · obtain ⟨a, ha⟩ := Option.isSome_iff_exists.1 hsome
      have HR := h1_ ha
      have hr : (fitL (upI (max 1 size) 256) (e8_ ps)).getD 0 = a := by rw [ha]; rfl
      clear ha
      go_wp2_with (go_at_call 158; refine (lf_ _ (e8_ ps) _ _ HH.out.1.1 (by have := HH.out.1.2; omega) HH.out.2.1 (by omega) (by omega)).mono ?_; rintro e w4 ⟨rfl, hb4⟩)
      go_ret
      exact ⟨fg_ (by unfold oo_; rw [HR.out]; rfl), HH.out.2.2.trans (hb4.mono HH.out.2.2.size)⟩
    · have hnone : fitL (upI (max 1 size) 256) (e8_ ps) = none := by simpa using hsome
      have hs' : (fitL (upI (max 1 size) 256) (e8_ ps)).isSome = false := by simpa using hsome
      have HR := h1_ hnone
      clear hsome hnone
      go_wp2_with (go_at_call 158; refine (lf_ _ (e8_ ps) _ _ HH.out.1.1 (by have := HH.out.1.2; omega) HH.out.2.1 (by omega) (by omega)).mono ?_; rintro e w4 ⟨rfl, hb4⟩)
      go_ret
      exact ⟨fg_ (by unfold oo_; rw [HR.out]; rfl), HH.out.2.2.trans (hb4.mono HH.out.2.2.size)⟩
theorem sz_ (s : Nat) (size : Int) (w : World) (hsp : SpaceAt w s (.slice none 0 0) []) (hs : size ≤ 1099511627776) (hs' : -1099511627776 ≤ size) :
 Calls Tryz.prog 68 #[.pointer (some ⟨s, 0, none⟩), .int .i64 size] w fun e w' =>
  e = .returned (.int .i64 (oo_ [] size)) ∧ Below w.heap.size w w' := by
 have hc := cell_of_one hsp.head
 have hlt := lt_of_block hsp.head
 have hm1 : (if (1 : Int) < size then size else 1) = max 1 size := max_g 1 size
 have hup := mf_ (max 1 size)
 have hup2 : upI (max 1 size) 256 ≤ 1099511627776 := by unfold upI; split <;> omega
 have HS := h1_ hsp
 have hown : (w.alloc (.cells #[.int .i64 512, .int .i64 1099511627264] 67)).ownsRow 0 67 2 (.slice (some ⟨w.heap.size, 0, none⟩) 1 1) (e8_ []).length (bq_ (e8_ [])) :=
  ⟨rfl, .inr ⟨w.heap.size, 1, _, rfl, Nat.zero_le _, heap_alloc_new w _, by decide, by decide, rfl, rfl⟩⟩
 have HO := h1_ hown
 have HK := h1_ (p4_ (ps := []) (by simp))
 clear hsp hown
 by_cases hsome : (fitL (upI (max 1 size) 256) (e8_ [])).isSome = true
 · obtain ⟨a, ha⟩ := Option.isSome_iff_exists.1 hsome
   have HR := h1_ ha
   have hr : (fitL (upI (max 1 size) 256) (e8_ [])).getD 0 = a := by rw [ha]; rfl
   clear ha
   go_enter Tryz.func68, Tryz.ntmps68
   go_wp2_with (go_at_call 105; refine (i6_ _ _ _ (by omega) (by omega) (by omega) (by omega)).mono ?_; rintro e w2 ⟨rfl, rfl⟩)
   refine wp_loop_rounds 1 ?_
   rw [rounds_succ]
   go_wp2_with (go_at_call 158; refine (lf_ _ (e8_ []) _ _ HK.out.1 (by have := HK.out.2; simp at this; omega) HO.out (by omega) (by omega)).mono ?_; rintro e w4 ⟨rfl, hb4⟩)
   go_ret
   exact ⟨fg_ (by unfold oo_; rw [HR.out]; rfl), ((Below.refl _ _).alloc (Nat.le_refl _) _).trans (hb4.mono (by simp))⟩
 · have hnone : fitL (upI (max 1 size) 256) (e8_ []) = none := by simpa using hsome
   have hs' : (fitL (upI (max 1 size) 256) (e8_ [])).isSome = false := by simpa using hsome
   have HR := h1_ hnone
   clear hsome hnone
   go_enter Tryz.func68, Tryz.ntmps68
   go_wp2_with (go_at_call 105; refine (i6_ _ _ _ (by omega) (by omega) (by omega) (by omega)).mono ?_; rintro e w2 ⟨rfl, rfl⟩)
   refine wp_loop_rounds 1 ?_
   rw [rounds_succ]
   go_wp2_with (go_at_call 158; refine (lf_ _ (e8_ []) _ _ HK.out.1 (by have := HK.out.2; simp at this; omega) HO.out (by omega) (by omega)).mono ?_; rintro e w4 ⟨rfl, hb4⟩)
   go_ret
   exact ⟨fg_ (by unfold oo_; rw [HR.out]; rfl), ((Below.refl _ _).alloc (Nat.le_refl _) _).trans (hb4.mono (by simp))⟩
end
section
open Go.RowKit
attribute [local go_sem] ak_ af_
def IdxAt (ps : List Part) (a : Int) (i : Nat) : Prop :=
 i ≤ ps.length ∧ (∀ j (hj : j < ps.length), j < i → (ps[j]).at_ < a) ∧ (∀ j (hj : j < ps.length), i ≤ j → a ≤ (ps[j]).at_)
theorem op_ (a : Int) (w : World) :
 Calls Tryz.prog 237 #[.slice none 0 0, .int .i64 a, .func (.func 238) #[] #[]] w fun e w' =>
  Below w.heap.size w w' ∧ e = .returned (.tuple #[.int .i64 0, .bool false]) := by
 go_enter Tryz.func237, Tryz.ntmps237
 go_wp2
 refine wp_loop_rounds 1 ?_
 rw [rounds_succ]
 go_wp2
 go_ret2
 exact ⟨Below.refl _ _, rfl⟩
theorem hv_ (s : Nat) (pv : Value) (ps : List Part) (a : Int) (w : World) (hA : AreasOk ps) (hsp : SpaceAt w s pv ps) :
 Calls Tryz.prog 160 #[.pointer (some ⟨s, 0, none⟩), .int .i64 a] w fun e w' =>
  Below w.heap.size w w' ∧ ∃ i : Nat, IdxAt ps a i ∧ e = .returned (.tuple #[.int .i64 i, .bool (decide (∃ h : i < ps.length, (ps[i]).at_ = a))]) := by
 have hc := cell_of_one hsp.head
 rcases hsp.row.2 with ⟨rfl, h⟩ | ⟨g, cap, cur, rfl, _⟩
 · obtain rfl : ps = [] := List.eq_nil_of_length_eq_zero h
   clear hsp
   go_enter Tryz.func160, Tryz.ntmps160
   go_wp2_with (go_at_call 237; refine (op_ _ _).mono ?_; rintro e w1 ⟨hb1, rfl⟩)
   go_ret2
   exact ⟨hb1, 0, ⟨by simp, fun _ _ h => by omega, fun j hj => by simp at hj⟩, by simp⟩
 · have HA := h1_ hA
   have hfew := hA.few
   have HP := h1_ (show en_ w g ps from fun j u hj => by have := hsp.row.cells (g := g) rfl j u hj; simpa [fs_] using this)
   have hg0 : g < w.heap.size := (hsp.row.lt g rfl).2
   clear hsp hA
   go_enter Tryz.func160, Tryz.ntmps160
   go_wp2_with (go_at_call 237; refine (om_ g cap ps _ _ hg0 (by omega) HA.out.sorted HP.out).mono ?_; rintro e w1 ⟨hb1, i, h1, h2, h3, rfl⟩; have HI := h3_ h1 h2 h3; clear h1 h2 h3)
   go_ret2
   exact ⟨hb1, i, HI.out, rfl⟩
end
end Go.Proofs.YtacaejpamidkcaaGreatDoor
