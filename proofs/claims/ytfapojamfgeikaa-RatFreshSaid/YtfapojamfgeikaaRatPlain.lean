/- The laws of the register map: the law of sets and the law of fresh registers. -/
import Derived.Test.YtfapojamfgeikaaRatLaws
namespace Go.Proofs.Ytfapojamfgeikaa.My
open Go.RowKit

theorem regB_iff {r : Int} : regB r = true ↔ 0 < r ∧ r < 16 := by simp [regB]
theorem getM_nat {xs : List Int} {k : Nat} (h0 : 0 < k) (hk : k < 16) : getM xs (k : Int) = el xs k := by
  have : regB (k : Int) = true := regB_iff.2 ⟨by omega, by omega⟩
  simp [getM, this, el]
theorem getM_zero {xs : List Int} : getM xs ((0 : Nat) : Int) = -1 := by
  simp [getM, show regB 0 = false by decide]
theorem el_setM {xs : List Int} (hl : xs.length = 16) {r p : Int} {k : Nat} (h0 : 0 < k) (hk : k < 16) : el (setM xs r p) k = if (k : Int) = r then p else el xs k := by
  unfold setM
  by_cases h : regB r = true
  · rw [if_pos h]
    obtain ⟨h1, h2⟩ := regB_iff.1 h
    by_cases e : (k : Int) = r
    · rw [if_pos e]
      have : r.toNat = k := by omega
      rw [this]
      simp [el, List.getElem?_set_self (show k < xs.length by omega)]
    · rw [if_neg e]
      unfold el
      rw [List.getElem?_set_ne (by omega)]
  · rw [if_neg h]
    have : ¬ (0 < r ∧ r < 16) := fun e => h (regB_iff.2 e)
    rw [if_neg (by omega)]
theorem el_setM_zero {xs : List Int} {r p : Int} : el (setM xs r p) 0 = el xs 0 := by
  unfold setM
  by_cases h : regB r = true
  · rw [if_pos h]
    obtain ⟨h1, h2⟩ := regB_iff.1 h
    unfold el
    rw [List.getElem?_set_ne (by omega)]
  · rw [if_neg h]
theorem ext_el {xs ys : List Int} (hx : xs.length = 16) (hy : ys.length = 16) (h : ∀ k, k < 16 → el xs k = el ys k) : xs = ys := by
  apply List.ext_getElem (by omega)
  intro k h1 h2
  have := h k (by omega)
  simpa [el, List.getElem?_eq_getElem h1, List.getElem?_eq_getElem h2] using this
theorem set_back {xs : List Int} (hl : xs.length = 16) (r p : Int) : setM (setM xs r p) r (getM xs r) = xs := by
  apply ext_el (setM_len (setM_len hl _ _) _ _) hl
  intro k hk
  by_cases h0 : k = 0
  · subst h0; rw [el_setM_zero, el_setM_zero]
  · rw [el_setM (setM_len hl _ _) (by omega) hk]
    by_cases e : (k : Int) = r
    · rw [if_pos e, ← e, getM_nat (by omega) hk]
    · rw [if_neg e, el_setM hl (by omega) hk, if_neg e]
theorem get_set_same {xs : List Int} (hl : xs.length = 16) {r p : Int} {k : Nat} (h0 : 0 < k) (hk : k < 16) (e : (k : Int) = r) : getM (setM xs r p) (k : Int) = p := by
  rw [getM_nat h0 hk, el_setM hl h0 hk, if_pos e]
theorem get_set_other {xs : List Int} (hl : xs.length = 16) {r p : Int} {k : Nat} (h0 : 0 < k) (hk : k < 16) (e : ¬ (k : Int) = r) : getM (setM xs r p) (k : Int) = getM xs (k : Int) := by
  rw [getM_nat h0 hk, getM_nat h0 hk, el_setM hl h0 hk, if_neg e]
theorem uses_el {xs : List Int} {k : Nat} (h0 : 0 < k) (hk : k < 16) : usesB xs (getM xs (k : Int)) = true :=
  usesB_iff.2 ⟨k, hk, h0, (getM_nat h0 hk).symm⟩

/-- A fresh register keeps a right map right; what it was in nobody is in then. -/
theorem fresh_right {xs : List Int} (hl : xs.length = 16) {n r p : Int} (hr : regB r = true) (hx : rightB xs n = true) (h1 : 1 ≤ p) (hn : p < n) (hu : usesB xs p = false) : rightB (setM xs r p) n = true := by
  obtain ⟨hr1, hr2⟩ := regB_iff.1 hr
  obtain ⟨x0, xr⟩ := rightB_iff.1 hx
  have nu : ∀ k, k < 16 → 1 ≤ k → el xs k ≠ p := fun k hk h e => by
    have := usesB_iff.2 ⟨k, hk, h, e⟩
    rw [hu] at this; cases this
  refine rightB_iff.2 ⟨by rw [el_setM_zero]; exact x0, fun k hk hk1 => okAt_iff.2 ?_⟩
  have ok := okAt_iff.1 (xr k hk hk1)
  refine ⟨fun q hq hq1 => ?_, ?_⟩
  · rw [el_setM hl (by omega) (by omega), el_setM hl (by omega) hk]
    by_cases e1 : (q : Int) = r
    · rw [if_pos e1, if_neg (by omega)]
      exact fun e => nu k hk hk1 e.symm
    · rw [if_neg e1]
      by_cases e2 : (k : Int) = r
      · rw [if_pos e2]; exact nu q (by omega) hq1
      · rw [if_neg e2]; exact ok.1 q hq hq1
  · rw [el_setM hl (by omega) hk]
    by_cases e2 : (k : Int) = r
    · rw [if_pos e2]; exact ⟨h1, hn⟩
    · rw [if_neg e2]; exact ok.2
theorem fresh_was {xs : List Int} (hl : xs.length = 16) {n r p : Int} (hr : regB r = true) (hx : rightB xs n = true) (hu : usesB xs p = false) : usesB (setM xs r p) (getM xs r) = false := by
  obtain ⟨hr1, hr2⟩ := regB_iff.1 hr
  obtain ⟨x0, xr⟩ := rightB_iff.1 hx
  have hrn : getM xs r = el xs r.toNat := by
    have := getM_nat (xs := xs) (k := r.toNat) (by omega) (by omega)
    rwa [Int.toNat_of_nonneg (by omega)] at this
  rw [hrn]
  refine usesB_no fun k hk hk1 => ?_
  rw [el_setM hl (by omega) hk]
  by_cases e : (k : Int) = r
  · rw [if_pos e]
    intro e2
    have := usesB_iff.2 ⟨r.toNat, by omega, by omega, e2.symm⟩
    rw [hu] at this; cases this
  · rw [if_neg e]
    rcases Nat.lt_trichotomy k r.toNat with h | h | h
    · exact (okAt_iff.1 (xr r.toNat (by omega) (by omega))).1 k h hk1
    · omega
    · exact fun e2 => (okAt_iff.1 (xr k hk hk1)).1 r.toNat h (by omega) e2.symm
theorem fresh_uses {xs : List Int} (hl : xs.length = 16) {r p : Int} (hr : regB r = true) : usesB (setM xs r p) p = true := by
  obtain ⟨hr1, hr2⟩ := regB_iff.1 hr
  refine usesB_iff.2 ⟨r.toNat, by omega, by omega, ?_⟩
  rw [el_setM hl (by omega) (by omega), if_pos (by omega)]

end Go.Proofs.Ytfapojamfgeikaa.My
