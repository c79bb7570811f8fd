/- Division bit by bit, in plain numbers. -/
namespace Go.Proofs.Ytimcdkmbiggapaa.My

/-- A division under way. -/
structure DV where
  n : Int
  d : Int
  q : Int
  r : Int
  l : Int
def lf (n : Int) : Int := min (max n 0) 32
def bitZ (n : Int) (k : Nat) : Int := n / 2 ^ k % 2
def okD (s : DV) : Prop := (0 ≤ s.n ∧ s.n < 4294967296) ∧ (0 ≤ s.d ∧ s.d < 4294967296) ∧ (0 ≤ s.q ∧ s.q < 4294967296) ∧ (0 ≤ s.r ∧ s.r < 4294967296)
def newD (a b : Int) : DV := ⟨a, b, 0, 0, 32⟩
def stepD (s : DV) : DV :=
  if lf s.l = 0 then ⟨s.n, s.d, s.q, s.r, 0⟩
  else if s.d ≤ s.r * 2 + bitZ s.n (lf s.l - 1).toNat then ⟨s.n, s.d, s.q * 2 % 4294967296 + 1, (s.r * 2 + bitZ s.n (lf s.l - 1).toNat - s.d) % 4294967296, lf s.l - 1⟩
  else ⟨s.n, s.d, s.q * 2 % 4294967296, (s.r * 2 + bitZ s.n (lf s.l - 1).toNat) % 4294967296, lf s.l - 1⟩
def iterD : Nat → DV → DV
  | 0, s => s
  | k + 1, s => stepD (iterD k s)
def runD (s : DV) : DV := iterD (lf s.l).toNat s

theorem lf_bounds (n : Int) : 0 ≤ lf n ∧ lf n ≤ 32 := by unfold lf; omega
theorem bitZ_bounds (n : Int) (k : Nat) : 0 ≤ bitZ n k ∧ bitZ n k ≤ 1 := by unfold bitZ; omega
theorem ok_step {s : DV} (h : okD s) : okD (stepD s) := by
  obtain ⟨h1, h2, h3, h4⟩ := h
  have hb := bitZ_bounds s.n (lf s.l - 1).toNat
  unfold stepD okD
  split
  · exact ⟨h1, h2, h3, h4⟩
  · split
    · exact ⟨h1, h2, by show 0 ≤ s.q * 2 % 4294967296 + 1 ∧ s.q * 2 % 4294967296 + 1 < 4294967296; omega, by show 0 ≤ (s.r * 2 + bitZ s.n (lf s.l - 1).toNat - s.d) % 4294967296 ∧ (s.r * 2 + bitZ s.n (lf s.l - 1).toNat - s.d) % 4294967296 < 4294967296; omega⟩
    · exact ⟨h1, h2, by show 0 ≤ s.q * 2 % 4294967296 ∧ s.q * 2 % 4294967296 < 4294967296; omega, by show 0 ≤ (s.r * 2 + bitZ s.n (lf s.l - 1).toNat) % 4294967296 ∧ (s.r * 2 + bitZ s.n (lf s.l - 1).toNat) % 4294967296 < 4294967296; omega⟩
theorem ok_iter {s : DV} (h : okD s) : ∀ k, okD (iterD k s)
  | 0 => h
  | k + 1 => ok_step (ok_iter h k)
theorem ok_new {a b : Int} (ha : 0 ≤ a ∧ a < 4294967296) (hb : 0 ≤ b ∧ b < 4294967296) : okD (newD a b) := ⟨ha, hb, ⟨Int.le_refl 0, (by decide : (0 : Int) < 4294967296)⟩, ⟨Int.le_refl 0, (by decide : (0 : Int) < 4294967296)⟩⟩

/-! ### The end: quotient and remainder -/
theorem lf_in {l : Int} (h0 : 0 ≤ l) (h1 : l ≤ 32) : lf l = l := by unfold lf; omega
theorem step_n (s : DV) : (stepD s).n = s.n := by unfold stepD; split <;> (first | rfl | (split <;> rfl))
theorem step_d (s : DV) : (stepD s).d = s.d := by unfold stepD; split <;> (first | rfl | (split <;> rfl))
theorem step_l (s : DV) : (stepD s).l = if lf s.l = 0 then 0 else lf s.l - 1 := by unfold stepD; split <;> (first | rfl | (split <;> rfl))

theorem div_pow (n : Int) (k : Nat) : n / 2 ^ k = 2 * (n / 2 ^ (k + 1)) + bitZ n k := by
  unfold bitZ
  have h : n / 2 ^ (k + 1) = n / 2 ^ k / 2 := by rw [Int.pow_succ, Int.ediv_ediv_of_nonneg (Int.pow_nonneg (by decide))]
  rw [h]; omega

/-- What holds behind k steps from a new division: l = 32 - k; quotient and remainder of the number's upper bits. -/
theorem iter_new {a b : Int} (ha : 0 ≤ a ∧ a < 4294967296) (hb : 0 < b ∧ b < 4294967296) : ∀ k : Nat, k ≤ 32 →
    (iterD k (newD a b)).l = 32 - k ∧ (iterD k (newD a b)).n = a ∧ (iterD k (newD a b)).d = b ∧
    (iterD k (newD a b)).q = a / 2 ^ (32 - k) / b ∧ (iterD k (newD a b)).r = a / 2 ^ (32 - k) % b
  | 0, _ => by
    have h0 : a / 2 ^ (32 - 0) = 0 := Int.ediv_eq_zero_of_lt ha.1 (by simpa using ha.2)
    refine ⟨by simp [iterD, newD], rfl, rfl, ?_, ?_⟩
    · rw [h0]; simp [iterD, newD]
    · rw [h0]; simp [iterD, newD]
  | k + 1, hk => by
    obtain ⟨hl, hn, hd, hq, hr⟩ := iter_new ha hb k (by omega)
    have hlf : lf (iterD k (newD a b)).l = 32 - k := by rw [hl, lf_in (by omega) (by omega)]
    have hne : ¬ lf (iterD k (newD a b)).l = 0 := by rw [hlf]; omega
    have ht : (lf (iterD k (newD a b)).l - 1).toNat = 32 - (k + 1) := by rw [hlf]; omega
    have hp : a / 2 ^ (32 - (k + 1)) = 2 * (a / 2 ^ (32 - k)) + bitZ a (32 - (k + 1)) := by
      have := div_pow a (32 - (k + 1))
      rwa [show 32 - (k + 1) + 1 = 32 - k by omega] at this
    have hbit := bitZ_bounds a (32 - (k + 1))
    have hx0 : 0 ≤ a / 2 ^ (32 - k) := Int.ediv_nonneg ha.1 (Int.pow_nonneg (by decide))
    have hx1 : a / 2 ^ (32 - (k + 1)) ≤ a := Int.ediv_le_self _ ha.1
    have hm := Int.mul_ediv_add_emod (a / 2 ^ (32 - k)) b
    have hr0 := Int.emod_nonneg (a / 2 ^ (32 - k)) (show b ≠ 0 by omega)
    have hr1 := Int.emod_lt_of_pos (a / 2 ^ (32 - k)) hb.1
    have hq0 : 0 ≤ a / 2 ^ (32 - k) / b := Int.ediv_nonneg hx0 (by omega)
    generalize hX : a / 2 ^ (32 - k) = X at *
    generalize hY : a / 2 ^ (32 - (k + 1)) = Y at *
    generalize hB : bitZ a (32 - (k + 1)) = B at *
    generalize hqq : X / b = qq at *
    generalize hrr : X % b = rr at *
    have hyle : 2 * qq ≤ Y := by
      have : qq ≤ b * qq := by
        have := Int.mul_le_mul_of_nonneg_right (show 1 ≤ b by omega) hq0
        simpa using this
      omega
    have hqm : qq * 2 % 4294967296 = qq * 2 := Int.emod_eq_of_lt (by omega) (by omega)
    have hs : stepD (iterD k (newD a b)) = if b ≤ rr * 2 + B then ⟨a, b, qq * 2 + 1, rr * 2 + B - b, 32 - (k + 1 : Nat)⟩ else ⟨a, b, qq * 2, rr * 2 + B, 32 - (k + 1 : Nat)⟩ := by
      unfold stepD
      rw [if_neg hne, ht, hn, hd, hq, hr, hlf, hB, hqm]
      split
      · congr 1
        · exact Int.emod_eq_of_lt (by omega) (by omega)
        · omega
      · congr 1
        · exact Int.emod_eq_of_lt (by omega) (by omega)
        · omega
    show (stepD (iterD k (newD a b))).l = _ ∧ (stepD (iterD k (newD a b))).n = _ ∧ (stepD (iterD k (newD a b))).d = _ ∧ (stepD (iterD k (newD a b))).q = _ ∧ (stepD (iterD k (newD a b))).r = _
    rw [hs]
    by_cases c : b ≤ rr * 2 + B
    · rw [if_pos c]
      have key : Y = b * (qq * 2 + 1) + (rr * 2 + B - b) := by
        have : b * (qq * 2 + 1) = 2 * (b * qq) + b := by rw [Int.mul_add, Int.mul_one, ← Int.mul_assoc, Int.mul_comm]
        omega
      have hd' : Y / b = qq * 2 + 1 := by rw [key, Int.mul_add_ediv_left _ _ (by omega), Int.ediv_eq_zero_of_lt (by omega) (by omega)]; omega
      have hm' : Y % b = rr * 2 + B - b := by rw [key, Int.mul_add_emod_self_left, Int.emod_eq_of_lt (by omega) (by omega)]
      exact ⟨rfl, rfl, rfl, hd'.symm, hm'.symm⟩
    · rw [if_neg c]
      have key : Y = b * (qq * 2) + (rr * 2 + B) := by
        have : b * (qq * 2) = 2 * (b * qq) := by rw [← Int.mul_assoc, Int.mul_comm]
        omega
      have hd' : Y / b = qq * 2 := by rw [key, Int.mul_add_ediv_left _ _ (by omega), Int.ediv_eq_zero_of_lt (by omega) (by omega)]; omega
      have hm' : Y % b = rr * 2 + B := by rw [key, Int.mul_add_emod_self_left, Int.emod_eq_of_lt (by omega) (by omega)]
      exact ⟨rfl, rfl, rfl, hd'.symm, hm'.symm⟩

theorem run_new {a b : Int} (ha : 0 ≤ a ∧ a < 4294967296) (hb : 0 < b ∧ b < 4294967296) : (runD (newD a b)).q = a / b ∧ (runD (newD a b)).r = a % b := by
  have h := iter_new ha hb 32 (by omega)
  have : runD (newD a b) = iterD 32 (newD a b) := rfl
  rw [this]
  simpa using h.2.2.2

theorem iter_new0 {a : Int} (ha : 0 ≤ a ∧ a < 4294967296) : ∀ k : Nat, k ≤ 32 →
    (iterD k (newD a 0)).l = 32 - k ∧ (iterD k (newD a 0)).n = a ∧ (iterD k (newD a 0)).d = 0 ∧
    (iterD k (newD a 0)).q = 2 ^ k - 1 ∧ (iterD k (newD a 0)).r = a / 2 ^ (32 - k)
  | 0, _ => by
    have h0 : a / 2 ^ (32 - 0) = 0 := Int.ediv_eq_zero_of_lt ha.1 (by simpa using ha.2)
    exact ⟨by simp [iterD, newD], rfl, rfl, by simp [iterD, newD], by rw [h0]; simp [iterD, newD]⟩
  | k + 1, hk => by
    obtain ⟨hl, hn, hd, hq, hr⟩ := iter_new0 ha k (by omega)
    have hlf : lf (iterD k (newD a 0)).l = 32 - k := by rw [hl, lf_in (by omega) (by omega)]
    have hne : ¬ lf (iterD k (newD a 0)).l = 0 := by rw [hlf]; omega
    have ht : (lf (iterD k (newD a 0)).l - 1).toNat = 32 - (k + 1) := by rw [hlf]; omega
    have hp : a / 2 ^ (32 - (k + 1)) = 2 * (a / 2 ^ (32 - k)) + bitZ a (32 - (k + 1)) := by
      have := div_pow a (32 - (k + 1))
      rwa [show 32 - (k + 1) + 1 = 32 - k by omega] at this
    have hbit := bitZ_bounds a (32 - (k + 1))
    have hx0 : 0 ≤ a / 2 ^ (32 - k) := Int.ediv_nonneg ha.1 (Int.pow_nonneg (by decide))
    have hx1 : a / 2 ^ (32 - (k + 1)) ≤ a := Int.ediv_le_self _ ha.1
    have hpow : (2 : Int) ^ (k + 1) = 2 * 2 ^ k := by rw [Int.pow_succ, Int.mul_comm]
    have hp1 : (1 : Int) ≤ 2 ^ k := by
      have : (0 : Int) < 2 ^ k := Int.pow_pos (by decide)
      omega
    have hp2 : (2 : Int) ^ (k + 1) ≤ 4294967296 := by
      have h1 : (2 : Nat) ^ (k + 1) ≤ 2 ^ 32 := Nat.pow_le_pow_right (by decide) hk
      have h2 : ((2 : Nat) ^ (k + 1) : Int) ≤ ((2 : Nat) ^ 32 : Int) := by exact_mod_cast h1
      simpa using h2
    show (stepD (iterD k (newD a 0))).l = _ ∧ (stepD (iterD k (newD a 0))).n = _ ∧ (stepD (iterD k (newD a 0))).d = _ ∧ (stepD (iterD k (newD a 0))).q = _ ∧ (stepD (iterD k (newD a 0))).r = _
    unfold stepD
    rw [if_neg hne, ht, hn, hd, hq, hr, hlf]
    generalize a / 2 ^ (32 - k) = X at *
    generalize a / 2 ^ (32 - (k + 1)) = Y at *
    generalize bitZ a (32 - (k + 1)) = B at *
    generalize (2 : Int) ^ k = pk at *
    rw [if_pos (by omega), hpow]
    refine ⟨by show (32 : Int) - k - 1 = _; omega, rfl, rfl, ?_, ?_⟩
    · show (pk - 1) * 2 % 4294967296 + 1 = 2 * pk - 1
      rw [Int.emod_eq_of_lt (by omega) (by omega)]; omega
    · show (X * 2 + B - 0) % 4294967296 = Y
      rw [Int.emod_eq_of_lt (by omega) (by omega)]; omega
theorem run_new0 {a : Int} (ha : 0 ≤ a ∧ a < 4294967296) : (runD (newD a 0)).q = 4294967295 ∧ (runD (newD a 0)).r = a := by
  have h := iter_new0 ha 32 (by omega)
  have : runD (newD a 0) = iterD 32 (newD a 0) := rfl
  rw [this]
  simpa using h.2.2.2
theorem iter_add (s : DV) (j : Nat) : ∀ k, iterD k (iterD j s) = iterD (k + j) s
  | 0 => by simp [iterD]
  | k + 1 => by
    rw [show k + 1 + j = (k + j) + 1 by omega]
    show stepD (iterD k (iterD j s)) = stepD (iterD (k + j) s)
    rw [iter_add s j k]

end Go.Proofs.Ytimcdkmbiggapaa.My
