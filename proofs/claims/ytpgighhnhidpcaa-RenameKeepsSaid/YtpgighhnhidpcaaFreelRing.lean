/- The plain law of rings: who is in a ring behind a Take, a Give, a Back. -/
import Derived.Test.YtpgighhnhidpcaaFreelKeep
set_option linter.unusedVariables false
set_option linter.unusedSimpArgs false
namespace Go.Proofs.Ytpgighhnhidpcaa.My
open Go.RowKit
theorem atZ_zero {n : Nat} {h : Int} (h0 : 0 ≤ h) (h1 : h < n) : atZ n h 0 = h := by unfold atZ; rw [Int.add_zero]; exact Int.emod_eq_of_lt h0 h1
theorem atZ_atZ (n : Nat) (h a b : Int) : atZ n (atZ n h a) b = atZ n h (a + b) := by unfold atZ; rw [Int.emod_add_emod, Int.add_assoc]
theorem ring_pop {xs : List Int} {n : Nat} {h N : Int} (ht : takeB n h N = true) : ringL xs n h N = el xs h.toNat :: ringL xs n (atZ n h 1) (N - 1) ∧ soundB n (atZ n h 1) (N - 1) = true := by
  obtain ⟨hn0, hn9, h0, h1, N0, N1, hs, dN⟩ := take_bounds ht
  obtain ⟨b0, b1⟩ := atZ_bounds h 1 hn0
  have hs2 : soundB n (atZ n h 1) (N - 1) = true := sound_iff.2 ⟨hn9, b0, .inl b1, by omega, by omega⟩
  refine ⟨?_, hs2⟩
  unfold ringL
  rw [hs, hs2, if_pos rfl, if_pos rfl, show N.toNat = (N - 1).toNat + 1 by omega, List.range_succ_eq_map, List.map_cons, List.map_map]
  congr 1
  · rw [show ((0 : Nat) : Int) = 0 from rfl, atZ_zero h0 h1]
  · apply List.map_congr_left
    intro k _
    show el xs (atZ n h ((k.succ : Nat) : Int)).toNat = el xs (atZ n (atZ n h 1) (k : Int)).toNat
    rw [atZ_atZ]
    congr 2
    congr 1
    omega
theorem atZ_ne {n : Nat} {h : Int} {k : Nat} {N : Int} (hk : (k : Int) < N) (hN : N < n) : atZ n h (k : Int) ≠ atZ n h N := by
  intro q
  unfold atZ at q
  have h1 := Int.emod_emod_of_dvd (h + N - (h + (k : Int))) (Int.dvd_refl (n : Int))
  have h2 : (h + N - (h + (k : Int))) % (n : Int) = 0 := by rw [Int.sub_emod, q]; simp
  rw [show h + N - (h + (k : Int)) = N - k by omega, Int.emod_eq_of_lt (by omega) (by omega)] at h2
  omega
theorem ring_put {xs : List Int} {n : Nat} {h N p : Int} (hl : xs.length = n) (hg : giveB n h N = true) : ringL (xs.set (atZ n h N).toNat p) n h (N + 1) = ringL xs n h N ++ [p] ∧ soundB n h (N + 1) = true := by
  obtain ⟨hn0, hn9, h0, h1, N0, N1, hs, dN⟩ := give_bounds hg
  obtain ⟨b0, b1⟩ := atZ_bounds h N hn0
  have hs2 : soundB n h (N + 1) = true := sound_iff.2 ⟨hn9, h0, .inl h1, by omega, by omega⟩
  refine ⟨?_, hs2⟩
  unfold ringL
  rw [hs, hs2, if_pos rfl, if_pos rfl, show (N + 1).toNat = N.toNat + 1 by omega, List.range_succ, List.map_append]
  congr 1
  · apply List.map_congr_left
    intro k hk
    have hk2 : k < N.toNat := List.mem_range.1 hk
    obtain ⟨c0, c1⟩ := atZ_bounds h (k : Int) hn0
    have := atZ_ne (n := n) (h := h) (k := k) (N := N) (by omega) N1
    exact el_set_other (by omega) p
  · show [el (xs.set (atZ n h N).toNat p) (atZ n h ((N.toNat : Nat) : Int)).toNat] = [p]
    rw [show ((N.toNat : Nat) : Int) = N by omega, el_set_same (by omega)]
theorem set_el {xs : List Int} {i : Nat} : xs.set i (el xs i) = xs := by
  apply List.ext_getElem?
  intro j
  rw [List.getElem?_set]
  by_cases h : i = j
  · subst h
    by_cases h2 : i < xs.length
    · simp [h2, el]
    · simp [h2, List.getElem?_eq_none (Nat.le_of_not_lt h2)]
  · simp [h]
/-- Who is taken and put back: the ring is as it was. -/
theorem ring_back {xs : List Int} {n : Nat} {h N : Int} (ht : takeB n h N = true) : bkR xs n (atZ n h 1) (N - 1) (el xs h.toNat) = xs ∧ bkH n (atZ n h 1) (N - 1) = h ∧ gvN n (atZ n h 1) (N - 1) = N := by
  obtain ⟨hn0, hn9, h0, h1, N0, N1, hs, dN⟩ := take_bounds ht
  have hs2 := (ring_pop (xs := xs) ht).2
  have hg : giveB n (atZ n h 1) (N - 1) = true := by
    unfold giveB
    rw [hs2, Bool.true_and]
    exact decide_eq_true (by omega)
  have e : atZ n (atZ n h 1) (-1) = h := by
    rw [atZ_atZ]
    exact atZ_zero h0 h1
  unfold bkR bkH gvN
  rw [if_pos hg, if_pos hg, if_pos hg, e]
  exact ⟨set_el, rfl, by omega⟩
theorem take_iff {n : Nat} {h N : Int} (hs : soundB n h N = true) : takeB n h N = decide (N ≠ 0) := by unfold takeB; rw [hs]; rfl
theorem give_iff {n : Nat} {h N : Int} (hs : soundB n h N = true) : giveB n h N = decide (N ≠ n) := by unfold giveB; rw [hs]; rfl
theorem new_sound {q : Int} {M : Nat} (hM : cut q 96 = M) : soundB M 0 (M : Int) = true := sound_iff.2 ⟨hM ▸ cut_le q 96, Int.le_refl _, .inr rfl, by omega, Int.le_refl _⟩
end Go.Proofs.Ytpgighhnhidpcaa.My
