/- wire: the reader. -/
import Derived.Test.YtacaejpamidkcaaGreatDoorR26
set_option linter.unusedVariables false
set_option linter.unusedSimpArgs false
set_option maxRecDepth 100000
set_option maxHeartbeats 4000000
namespace Go.Proofs.YtacaejpamidkcaaGreatDoor
section
open Go.RowKit Wire
attribute [local go_sem] ak_ af_
def WR (w : World) (q : Nat) (rest : List UInt8) (bad : Bool) : Prop := w.heap[q]? = some (.cells #[strB rest, .bool bad] 150 (0, 0))
theorem lt_ (l : List UInt8) (n : Nat) : (⟨l.toArray⟩ : ByteArray).extract n (⟨l.toArray⟩ : ByteArray).size = ⟨(l.drop n).toArray⟩ := by
 apply ByteArray.ext
 simp only [ByteArray.data_extract]
 rw [List.extract_toArray]
 congr 1
 show List.extract l n l.toArray.size = _
 rw [List.extract_eq_take_drop, List.size_toArray]
 rw [List.take_of_length_le (by rw [List.length_drop]; omega)]
theorem ql_ (l : List UInt8) (n : Nat) : (⟨l.toArray⟩ : ByteArray).extract 0 n = ⟨(l.take n).toArray⟩ := by
 apply ByteArray.ext
 simp only [ByteArray.data_extract]
 rw [List.extract_toArray]
 congr 1
theorem o8_ (q : Nat) (rest : List UInt8) (bad : Bool) (w : World) (h : WR w q rest bad) :
 Calls Tryz.prog 96 #[.pointer (some ⟨q, 0, none⟩)] w fun e w' => e = .returned (.tuple #[]) ∧ Only (· = q) w w' ∧ WR w' q [] true := by
 unfold WR strB at *
 have HG := h1_ h
 have c0 := ab_ h 0 rfl
 have f0 := ag_ h 0
 have c1 := ab_ h 1 rfl
 have f1 := ag_ h 1
 clear h
 go_enter Tryz.func96, Tryz.ntmps96
 go_wp2
 go_end0
 exact ⟨rfl, ((Only.refl (· = q) w).setCell _ _ (.inl rfl)).setCell _ _ (.inl rfl), aj_ (aj_ HG.out 0 _) 1 _⟩
theorem fo_ {rest : List UInt8} {bad db : Bool} (h : numP 0 0 rest = none) : br_ ⟨rest, bad, db⟩ = (0, ⟨[], true, db⟩) := by unfold br_; rw [h]; rfl
theorem g9_ {rest r : List UInt8} {bad db : Bool} {m : Nat} (h : numP 0 0 rest = some (m, r)) : br_ ⟨rest, bad, db⟩ = (m, ⟨r, bad, db⟩) := by unfold br_; rw [h]
theorem numP_at {rest : List UInt8} {k acc c : Nat} (hk : k < rest.length) (hc : rest[k].toNat = c) : numP k acc (rest.drop k) =
 if 10 ≤ k ∨ k = 9 ∧ 1 < c then none else if c < 128 then (if c = 0 ∧ 0 < k then none else some (acc + c % 128 * 2 ^ (7 * k), rest.drop (k + 1))) else numP (k + 1) (acc + c % 128 * 2 ^ (7 * k)) (rest.drop (k + 1)) := by
 rw [List.drop_eq_getElem_cons hk]
 show numP k acc (rest[k] :: rest.drop (k + 1)) = _
 conv => lhs; unfold numP
 rw [hc]
theorem uj_ (q : Nat) (rest : List UInt8) (bad db : Bool) (hsz : rest.length ≤ 140737488355328) (w : World) (h : WR w q rest bad) :
 Calls Tryz.prog 95 #[.pointer (some ⟨q, 0, none⟩)] w fun e w' => e = .returned (.int .u64 (br_ ⟨rest, bad, db⟩).1) ∧ Only (· = q) w w' ∧ WR w' q (br_ ⟨rest, bad, db⟩).2.rest (br_ ⟨rest, bad, db⟩).2.wb := by
 have HG := h1_ h
 unfold WR strB at h
 obtain ⟨S, hS⟩ : ∃ S, S = (⟨rest.toArray⟩ : ByteArray) := ⟨_, rfl⟩
 rw [← hS] at h
 have hSz : S.size = rest.length := by rw [hS]; rfl
 have c0 := ab_ h 0 rfl
 have f0 := ag_ h 0
 have lq := lt_of_block h
 have HS := h3_ hS hSz h
 clear h hS hSz
 go_enter Tryz.func95, Tryz.ntmps95
 go_wp2_with fail
 go_loopw [3, 4] (fun m i wr => ∃ (acc k : Nat), m = .int .u64 acc ∧ i = .int .i64 k ∧ k ≤ 10 ∧ k ≤ rest.length ∧ acc < 2 ^ (7 * k) ∧ numP 0 0 rest = numP k acc (rest.drop k) ∧ w = wr) (fun _ i _ => 10 - (RowKit.intOf i).toNat)
 case atStart => exact ⟨0, 0, rfl, rfl, by omega, by omega, by decide, rfl, rfl⟩
 case round =>
  obtain ⟨acc, k, rfl, rfl, hk, hkl, hacc, hnum, rfl⟩ := hrel
  by_cases hlt : k < rest.length
  · obtain ⟨c, hc⟩ : ∃ c, rest[k].toNat = c := ⟨_, rfl⟩
    have hc255 : c < 256 := by rw [← hc]; exact UInt8.toNat_lt _
    have hsz' := HS.out.2.1
    have hkS : k < S.size := by omega
    have hcw : IntKind.u64.wrap ((S[k]'hkS).toNat : Int) = (c : Int) := by
     have e : (S[k]'hkS).toNat = c := by
      rw [← hc]
      congr 1
      have hS := HS.out.1
      subst hS
      rfl
     rw [e, IntKind.wrap_u64]; omega
    rw [numP_at hlt hc] at hnum
    by_cases hbrk : 10 ≤ k ∨ k = 9 ∧ 1 < c
    · rw [if_pos hbrk] at hnum
      have HN := h1_ hnum
      clear hnum hacc hc
      rcases hbrk with h10 | ⟨rfl, h1c⟩
      · obtain rfl : k = 10 := by omega
        clear hcw
        go_wp2_with fail
        all_goals (go_at_call 96; refine (o8_ q rest bad _ HG.out).mono ?_; rintro e w1 ⟨rfl, ho1, hw1⟩; have H1 := h2_ ho1 hw1; clear ho1 hw1; go_wp2; go_ret; rw [fo_ HN.out]; exact ⟨rfl, H1.out.1, H1.out.2⟩)
      · have h1c' : (1 : Int) < (c : Int) := by omega
        go_wp2_with fail
        all_goals (go_at_call 96; refine (o8_ q rest bad _ HG.out).mono ?_; rintro e w1 ⟨rfl, ho1, hw1⟩; have H1 := h2_ ho1 hw1; clear ho1 hw1; go_wp2; go_ret; rw [fo_ HN.out]; exact ⟨rfl, H1.out.1, H1.out.2⟩)
    · rw [if_neg hbrk] at hnum
      by_cases h128 : c < 128
      · rw [if_pos h128] at hnum
        have e128 : (c : Int) < 128 := by omega
        have hmod : (c : Int).tmod 128 = (c : Int) := by rw [Int.tmod_eq_emod_of_nonneg (by omega)]; omega
        have hor := jr_ acc c k (by omega) h128 (by omega) hacc
        by_cases h0 : c = 0 ∧ 0 < k
        · rw [if_pos h0] at hnum
          have HN := h1_ hnum
          clear hnum hacc hc hor hmod
          obtain ⟨rfl, h0⟩ := h0
          by_cases h9 : k = 9
          · subst h9
            go_wp2_with fail
            all_goals (go_at_call 96; refine (o8_ q rest bad _ HG.out).mono ?_; rintro e w1 ⟨rfl, ho1, hw1⟩; have H1 := h2_ ho1 hw1; clear ho1 hw1; go_wp2; go_ret; rw [fo_ HN.out]; exact ⟨rfl, H1.out.1, H1.out.2⟩)
          · have h9' : ¬ (k : Int) = 9 := by omega
            go_wp2_with fail
            all_goals (go_at_call 96; refine (o8_ q rest bad _ HG.out).mono ?_; rintro e w1 ⟨rfl, ho1, hw1⟩; have H1 := h2_ ho1 hw1; clear ho1 hw1; go_wp2; go_ret; rw [fo_ HN.out]; exact ⟨rfl, H1.out.1, H1.out.2⟩)
        · rw [if_neg h0] at hnum
          rw [Nat.mod_eq_of_lt h128] at hnum
          have HN := h1_ hnum
          have HO := h1_ hor
          clear hnum hacc hc hor
          have hend : WR (w.setCell ⟨q, 0, none⟩ (.string (S.extract (k + 1) rest.length))) q (rest.drop (k + 1)) bad := by
           have h1 := aj_ HS.out.2.2 0 (.string (S.extract (k + 1) rest.length))
           have h2 : S.extract (k + 1) rest.length = ⟨(rest.drop (k + 1)).toArray⟩ := by rw [← hsz', HS.out.1]; exact lt_ rest (k + 1)
           rw [h2] at h1
           rw [h2]
           exact h1
          have HE := h1_ hend
          clear hend
          by_cases h9 : k = 9
          · subst h9
            obtain rfl : c = 1 := by omega
            have hl9 : (9 : Int) < (rest.length : Int) := by omega
            go_wp2
            go_ret
            rw [g9_ HN.out]
            have hO := HO.out
            rw [show IntKind.u64.wrap (((1 : Nat) : Int) * 2 ^ (7 * 9)) = 9223372036854775808 from by decide] at hO
            refine ⟨?_, (Only.refl (· = q) w).setCell _ _ (.inl rfl), HE.out⟩
            rw [hO]; rfl
          · have h9' : ¬ (k : Int) = 9 := by omega
            by_cases hz : c = 0
            · subst hz
              obtain rfl : k = 0 := by omega
              have hne : rest ≠ [] := by rintro rfl; simp at hlt
              go_wp2
              go_ret
              rw [g9_ HN.out]
              have hO := HO.out
              rw [show IntKind.u64.wrap (((0 : Nat) : Int) * 2 ^ (7 * 0)) = 0 from by decide] at hO
              refine ⟨?_, (Only.refl (· = q) w).setCell _ _ (.inl rfl), HE.out⟩
              rw [hO]; rfl
            · have hz' : ¬ (c : Int) = 0 := by omega
              obtain ⟨x, hx⟩ : ∃ x : Nat, x = acc + c * 2 ^ (7 * k) := ⟨_, rfl⟩
              have hor := HO.out
              rw [← hx] at hor
              have HX := h1_ hx
              clear hx
              go_wp2
              go_ret
              rw [g9_ HN.out, ← HX.out]
              exact ⟨rfl, (Only.refl (· = q) w).setCell _ _ (.inl rfl), HE.out⟩
      · rw [if_neg h128] at hnum
        have e128 : ¬ (c : Int) < 128 := by omega
        have h9' : ¬ (k : Int) = 9 := by omega
        have hmod : (c : Int).tmod 128 = ((c % 128 : Nat) : Int) := by rw [Int.tmod_eq_emod_of_nonneg (by omega)]; omega
        have hor := jr_ acc (c % 128) k (by omega) (by omega) (by omega) hacc
        have HN := h3_ hnum hacc hor
        clear hnum hacc hc hor
        go_wp2_with fail
        go_roundw
        case rel =>
         obtain ⟨hnum, hacc, hor⟩ := HN.out
         refine ⟨acc + c % 128 * 2 ^ (7 * k), k + 1, ?_, by simp, by omega, by omega, ?_, hnum, by first | trivial | rfl⟩
         · rw [← hor]
           simp
         · have e : 7 * (k + 1) = 7 * k + 7 := by omega
           rw [e, Nat.pow_add, show (2 : Nat) ^ 7 = 128 by decide]
           have h1 : c % 128 * 2 ^ (7 * k) ≤ 127 * 2 ^ (7 * k) := Nat.mul_le_mul_right _ (by omega)
           omega
        case measure => simp [RowKit.intOf]; omega
  · obtain rfl : k = rest.length := by omega
    rw [List.drop_length] at hnum
    have hsz' := HS.out.2.1
    have hge : ¬ ((rest.length : Int) < (S.size : Int)) := by omega
    have HN := h1_ (hnum.trans (by unfold numP; rfl))
    clear hnum hacc hsz'
    go_wp2_with fail
    all_goals (go_at_call 96; refine (o8_ q rest bad _ HG.out).mono ?_; rintro e w1 ⟨rfl, ho1, hw1⟩; have H1 := h2_ ho1 hw1; clear ho1 hw1; go_wp2; go_ret; rw [fo_ HN.out]; exact ⟨rfl, H1.out.1, H1.out.2⟩)
end
end Go.Proofs.YtacaejpamidkcaaGreatDoor
