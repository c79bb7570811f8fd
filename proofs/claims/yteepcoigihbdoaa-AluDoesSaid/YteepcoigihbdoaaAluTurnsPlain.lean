/- The plain law of turns. -/
import Derived.Test.YteepcoigihbdoaaAluTurns
set_option linter.unusedVariables false
namespace Go.Proofs.Yteepcoigihbdoaa.My
open Go.RowKit
theorem rot_bounds {x : Int} (x0 : 0 ≤ x) (x1 : x < 4294967296) {s : Nat} (hs : s < 32) : 0 ≤ rotS x s ∧ rotS x s < 4294967296 := by
  unfold rotS
  have hc : s = 0 ∨ s = 1 ∨ s = 2 ∨ s = 3 ∨ s = 4 ∨ s = 5 ∨ s = 6 ∨ s = 7 ∨ s = 8 ∨ s = 9 ∨ s = 10 ∨ s = 11 ∨ s = 12 ∨ s = 13 ∨ s = 14 ∨ s = 15 ∨ s = 16 ∨ s = 17 ∨ s = 18 ∨ s = 19 ∨ s = 20 ∨ s = 21 ∨ s = 22 ∨ s = 23 ∨ s = 24 ∨ s = 25 ∨ s = 26 ∨ s = 27 ∨ s = 28 ∨ s = 29 ∨ s = 30 ∨ s = 31 := by omega
  rcases hc with rfl | rfl | rfl | rfl | rfl | rfl | rfl | rfl | rfl | rfl | rfl | rfl | rfl | rfl | rfl | rfl | rfl | rfl | rfl | rfl | rfl | rfl | rfl | rfl | rfl | rfl | rfl | rfl | rfl | rfl | rfl | rfl <;> omega
theorem mul_mod32 (n : Nat) {s : Nat} (hs : s ≤ 32) : n * 2 ^ s % 4294967296 = n % 2 ^ (32 - s) * 2 ^ s := by
  have hp : 2 ^ (32 - s) * 2 ^ s = 4294967296 := by rw [← Nat.pow_add, show 32 - s + s = 32 by omega]
  rw [← hp, Nat.mul_mod_mul_right]
theorem rotN_back {n : Nat} (hn : n < 4294967296) {s : Nat} (h0 : 0 < s) (hs : s < 32) : (n * 2 ^ s % 4294967296 + n / 2 ^ (32 - s)) * 2 ^ (32 - s) % 4294967296 + (n * 2 ^ s % 4294967296 + n / 2 ^ (32 - s)) / 2 ^ s = n := by
  have hp : 2 ^ (32 - s) * 2 ^ s = 4294967296 := by rw [← Nat.pow_add, show 32 - s + s = 32 by omega]
  have h1 : n / 2 ^ (32 - s) < 2 ^ s := Nat.div_lt_of_lt_mul (by rw [hp]; omega)
  rw [mul_mod32 n (by omega), mul_mod32 _ (show 32 - s ≤ 32 by omega), show 32 - (32 - s) = s by omega]
  rw [Nat.add_comm (n % 2 ^ (32 - s) * 2 ^ s), Nat.add_mul_mod_self_right, Nat.mod_eq_of_lt h1, Nat.add_mul_div_right _ _ (Nat.two_pow_pos s), Nat.div_eq_of_lt h1, Nat.zero_add, Nat.mul_comm]
  exact Nat.div_add_mod n (2 ^ (32 - s))
theorem rot_nat (m s : Nat) : rotS (m : Int) s = ((m * 2 ^ s % 4294967296 + m / 2 ^ (32 - s) : Nat) : Int) := by
  unfold rotS
  rw [Int.natCast_add, Int.natCast_emod, Int.natCast_mul, Int.natCast_ediv, Int.natCast_pow, Int.natCast_pow]
  rfl
theorem rot_back {x : Int} (x0 : 0 ≤ x) (x1 : x < 4294967296) {s : Nat} (hs : s < 32) : rotS (rotS x s) ((32 - s) % 32) = x := by
  obtain ⟨n, rfl⟩ := Int.eq_ofNat_of_zero_le x0
  rw [rot_nat, rot_nat]
  congr 1
  by_cases h : s = 0
  · subst h
    simp only [Nat.reduceSub, Nat.reduceMod, Nat.reducePow]
    omega
  · have e : (32 - s) % 32 = 32 - s := by omega
    rw [e, show 32 - (32 - s) = s by omega]
    exact rotN_back (by omega) (by omega) hs
theorem popN_split (h : Nat) : ∀ (m l : Nat), l < 2 ^ m → popN (h * 2 ^ m + l) = popN h + popN l
  | 0, l, hl => by
    have : l = 0 := by omega
    subst this
    simp [popN_zero]
  | m + 1, l, hl => by
    rw [Nat.pow_succ] at hl ⊢
    have ih := popN_split h m (l / 2) (by omega)
    rw [popN_step, popN_step l]
    have e1 : (h * (2 ^ m * 2) + l) % 2 = l % 2 := by rw [← Nat.mul_assoc]; omega
    have e2 : (h * (2 ^ m * 2) + l) / 2 = h * 2 ^ m + l / 2 := by rw [← Nat.mul_assoc]; omega
    rw [e1, e2, ih]
    omega
theorem popN_not : ∀ (m n : Nat), n < 2 ^ m → popN n + popN (2 ^ m - 1 - n) = m
  | 0, n, h => by
    have : n = 0 := by omega
    subst this
    simp [popN_zero]
  | m + 1, n, h => by
    rw [Nat.pow_succ] at h ⊢
    have ih := popN_not m (n / 2) (by omega)
    rw [popN_step n, popN_step (2 ^ m * 2 - 1 - n)]
    have e1 : (2 ^ m * 2 - 1 - n) % 2 = 1 - n % 2 := by omega
    have e2 : (2 ^ m * 2 - 1 - n) / 2 = 2 ^ m - 1 - n / 2 := by omega
    rw [e1, e2]
    omega
theorem popN_rot {n : Nat} (hn : n < 2 ^ 32) {s : Nat} (hs : s < 32) : popN (n * 2 ^ s % 4294967296 + n / 2 ^ (32 - s)) = popN n := by
  have hp : 2 ^ (32 - s) * 2 ^ s = 4294967296 := by rw [← Nat.pow_add, show 32 - s + s = 32 by omega]
  have e1 : n * 2 ^ s % 4294967296 = n % 2 ^ (32 - s) * 2 ^ s := by rw [← hp, Nat.mul_mod_mul_right]
  have h1 : n / 2 ^ (32 - s) < 2 ^ s := Nat.div_lt_of_lt_mul (by rw [hp]; omega)
  have h2 := Nat.div_add_mod n (2 ^ (32 - s))
  have h3 : n % 2 ^ (32 - s) < 2 ^ (32 - s) := Nat.mod_lt _ (Nat.two_pow_pos _)
  rw [e1, popN_split _ s _ h1]
  conv => rhs; rw [← h2, Nat.mul_comm, popN_split _ (32 - s) _ h3]
  omega
theorem popN_rev {n : Nat} (hn : n < 4294967296) : popN (n % 256 * 16777216 + n / 256 % 256 * 65536 + n / 65536 % 256 * 256 + n / 16777216) = popN n := by
  have k := fun h l (hl : l < 256) => popN_split h 8 l hl
  have a1 := k ((n % 256 * 256 + n / 256 % 256) * 256 + n / 65536 % 256) (n / 16777216) (by omega)
  have a2 := k (n % 256 * 256 + n / 256 % 256) (n / 65536 % 256) (by omega)
  have a3 := k (n % 256) (n / 256 % 256) (by omega)
  have b1 := k (n / 256) (n % 256) (by omega)
  have b2 := k (n / 65536) (n / 256 % 256) (by omega)
  have b3 := k (n / 16777216) (n / 65536 % 256) (by omega)
  rw [show n / 256 * 2 ^ 8 + n % 256 = n by omega] at b1
  rw [show n / 65536 * 2 ^ 8 + n / 256 % 256 = n / 256 by omega] at b2
  rw [show n / 16777216 * 2 ^ 8 + n / 65536 % 256 = n / 65536 by omega] at b3
  rw [show n % 256 * 16777216 + n / 256 % 256 * 65536 + n / 65536 % 256 * 256 + n / 16777216 = ((n % 256 * 256 + n / 256 % 256) * 256 + n / 65536 % 256) * 2 ^ 8 + n / 16777216 by omega, a1]
  rw [show (n % 256 * 256 + n / 256 % 256) * 256 + n / 65536 % 256 = (n % 256 * 256 + n / 256 % 256) * 2 ^ 8 + n / 65536 % 256 by omega, a2]
  rw [show n % 256 * 256 + n / 256 % 256 = n % 256 * 2 ^ 8 + n / 256 % 256 by omega, a3]
  omega
theorem rev_nat (m : Nat) : revZ (m : Int) = ((m % 256 * 16777216 + m / 256 % 256 * 65536 + m / 65536 % 256 * 256 + m / 16777216 : Nat) : Int) := by
  unfold revZ
  simp only [Int.natCast_add, Int.natCast_mul, Int.natCast_emod, Int.natCast_ediv]
  rfl
theorem revZ_dig {a b c d : Int} (a0 : 0 ≤ a) (a1 : a < 256) (b0 : 0 ≤ b) (b1 : b < 256) (c0 : 0 ≤ c) (c1 : c < 256) (d0 : 0 ≤ d) (d1 : d < 256) : revZ (a * 16777216 + b * 65536 + c * 256 + d) = d * 16777216 + c * 65536 + b * 256 + a := by
  have e1 : (a * 16777216 + b * 65536 + c * 256 + d) % 256 = d := by omega
  have e2 : (a * 16777216 + b * 65536 + c * 256 + d) / 256 % 256 = c := by omega
  have e3 : (a * 16777216 + b * 65536 + c * 256 + d) / 65536 % 256 = b := by omega
  have e4 : (a * 16777216 + b * 65536 + c * 256 + d) / 16777216 = a := by omega
  unfold revZ
  rw [e1, e2, e3, e4]
theorem rev_rev {x : Int} (x0 : 0 ≤ x) (x1 : x < 4294967296) : revZ (revZ x) = x := by
  have h := revZ_dig (a := x % 256) (b := x / 256 % 256) (c := x / 65536 % 256) (d := x / 16777216) (by omega) (by omega) (by omega) (by omega) (by omega) (by omega) (by omega) (by omega)
  refine (show revZ (revZ x) = _ from h).trans ?_
  omega
theorem rev_bounds {x : Int} (x0 : 0 ≤ x) (x1 : x < 4294967296) : 0 ≤ revZ x ∧ revZ x < 4294967296 := by
  unfold revZ
  omega
theorem not_nat {n : Nat} (h : n < 4294967296) : 4294967295 ^^^ n = 4294967295 - n := by
  have e := BitVec.toNat_not (x := BitVec.ofNat 32 n)
  rw [BitVec.not_def, BitVec.toNat_xor, BitVec.toNat_allOnes, BitVec.toNat_ofNat, Nat.mod_eq_of_lt (show n < 2 ^ 32 by omega)] at e
  exact e
theorem up_down {x : Int} (x0 : 0 ≤ x) (x1 : x < 4294967296) {s : Nat} (hs : s < 32) : x * 2 ^ s % 4294967296 / 2 ^ s = x % 2 ^ (32 - s) := by
  have hc : s = 0 ∨ s = 1 ∨ s = 2 ∨ s = 3 ∨ s = 4 ∨ s = 5 ∨ s = 6 ∨ s = 7 ∨ s = 8 ∨ s = 9 ∨ s = 10 ∨ s = 11 ∨ s = 12 ∨ s = 13 ∨ s = 14 ∨ s = 15 ∨ s = 16 ∨ s = 17 ∨ s = 18 ∨ s = 19 ∨ s = 20 ∨ s = 21 ∨ s = 22 ∨ s = 23 ∨ s = 24 ∨ s = 25 ∨ s = 26 ∨ s = 27 ∨ s = 28 ∨ s = 29 ∨ s = 30 ∨ s = 31 := by omega
  rcases hc with rfl | rfl | rfl | rfl | rfl | rfl | rfl | rfl | rfl | rfl | rfl | rfl | rfl | rfl | rfl | rfl | rfl | rfl | rfl | rfl | rfl | rfl | rfl | rfl | rfl | rfl | rfl | rfl | rfl | rfl | rfl | rfl <;> omega
theorem pow_bounds {s : Nat} (hs : s < 32) : (0 : Int) < 2 ^ s ∧ (2 : Int) ^ s < 4294967296 := by
  have hc : s = 0 ∨ s = 1 ∨ s = 2 ∨ s = 3 ∨ s = 4 ∨ s = 5 ∨ s = 6 ∨ s = 7 ∨ s = 8 ∨ s = 9 ∨ s = 10 ∨ s = 11 ∨ s = 12 ∨ s = 13 ∨ s = 14 ∨ s = 15 ∨ s = 16 ∨ s = 17 ∨ s = 18 ∨ s = 19 ∨ s = 20 ∨ s = 21 ∨ s = 22 ∨ s = 23 ∨ s = 24 ∨ s = 25 ∨ s = 26 ∨ s = 27 ∨ s = 28 ∨ s = 29 ∨ s = 30 ∨ s = 31 := by omega
  rcases hc with rfl | rfl | rfl | rfl | rfl | rfl | rfl | rfl | rfl | rfl | rfl | rfl | rfl | rfl | rfl | rfl | rfl | rfl | rfl | rfl | rfl | rfl | rfl | rfl | rfl | rfl | rfl | rfl | rfl | rfl | rfl | rfl <;> decide

theorem size_last {x : Int} (x0 : 0 ≤ x) {j : Nat} (h : SizeIs x (j + 1)) : x / 2 ^ j = 1 := by
  have h1 := h.2.1
  have h2 := h.2.2
  rw [← pow_step] at h1
  rcases h2 with h2 | h2
  · omega
  · have h3 : x / 2 ^ j ≠ 0 := h2
    have := pow_nn x0 j
    omega
theorem size_ex (x : Int) (x0 : 0 ≤ x) (x1 : x < 4294967296) : ∃ j, SizeIs x j := by
  have key : ∀ m, m ≤ 32 → (∃ j, SizeIs x j) ∨ x / 2 ^ (32 - m) = 0 := by
    intro m
    induction m with
    | zero => intro _; exact Or.inr (pow_32 x0 x1 (Nat.le_refl _))
    | succ m ih =>
      intro hm
      rcases ih (by omega) with h | h
      · exact Or.inl h
      · by_cases c : x / 2 ^ (32 - (m + 1)) = 0
        · exact Or.inr c
        · exact Or.inl ⟨32 - m, by omega, h, Or.inr (by rw [show 32 - m - 1 = 32 - (m + 1) by omega]; exact c)⟩
  rcases key 32 (Nat.le_refl _) with h | h
  · exact h
  · exact ⟨0, by omega, h, Or.inl rfl⟩
theorem clz_is {x : Int} (x0 : 0 ≤ x) (x1 : x < 4294967296) {j : Nat} (h : SizeIs x j) : ClzIs x (32 - j) := by
  constructor
  intro w
  refine (clz_any x w x0 x1).mono ?_
  rintro e w' ⟨⟨i, hi, rfl⟩, rfl⟩
  rw [size_uniq x0 hi h]
  exact ⟨rfl, rfl⟩
theorem pop_is {x : Int} (x0 : 0 ≤ x) (x1 : x < 4294967296) {P : Nat} (h : popN x.toNat = P) : PopIs x P := by
  subst h
  exact ⟨fun w => pop_int x w x0 x1⟩
theorem rev_is {x : Int} (x0 : 0 ≤ x) (x1 : x < 4294967296) : RevIs x (revZ x) := ⟨fun w => rev_any x w x0 x1⟩
theorem turns_any (x n : Int) (w : World) (x0 : 0 ≤ x) (x1 : x < 4294967296) (n0 : 0 ≤ n) (n1 : n < 4294967296) : Calls Try.prog 6 #[.int .u32 x, .int .u32 n] w fun e w' => e = .returned (.bool true) ∧ Below w.heap.size w w' := by
  obtain ⟨T, hT⟩ : ∃ T, n % 32 = T := ⟨_, rfl⟩
  have T0 : 0 ≤ T := by omega
  have T1 : T < 32 := by omega
  have htm : n.tmod 32 = T := by rw [Int.tmod_eq_emod_of_nonneg n0]; exact hT
  obtain ⟨t, rfl⟩ := Int.eq_ofNat_of_zero_le T0
  obtain ⟨s, hs, hs2⟩ : ∃ s : Nat, (s : Int) = (32 - (t : Int)) % 32 ∧ t = (32 - s) % 32 := ⟨(32 - t) % 32, by omega, by omega⟩
  have hs1 : s < 32 := by omega
  obtain ⟨y0, y1⟩ := rot_bounds x0 x1 hs1
  have d1 := do_20 x n s x0 x1 n0 n1 (by rw [hT]; exact hs)
  have d2 := do_20 (rotS x s) (32 - (t : Int)) t y0 y1 (by omega) (by omega) (by omega)
  have hb := rot_back x0 x1 hs1
  rw [← hs2] at hb
  rw [hb] at d2
  obtain ⟨r0, r1⟩ := rev_bounds x0 x1
  have r2 := rev_is r0 r1
  rw [rev_rev x0 x1] at r2
  have hm : IntKind.u32.max = 4294967295 := by decide
  have hx : bits .xor .u32 IntKind.u32.max x = 4294967295 - x := by
    rw [hm, u32_xor _ x (by decide) (by decide) x0 x1, show (4294967295 : Int).toNat = 4294967295 from rfl, not_nat (by omega)]
    omega
  have p2 := pop_is x0 x1 rfl
  have p1 : PopIs (rotS x s) (popN x.toNat) := pop_is y0 y1 (by
    obtain ⟨m, rfl⟩ := Int.eq_ofNat_of_zero_le x0
    have e : (rotS (m : Int) s).toNat = m * 2 ^ s % 4294967296 + m / 2 ^ (32 - s) := by
      rw [rot_nat, Int.toNat_natCast]
    rw [e, popN_rot (by omega) hs1, Int.toNat_natCast])
  have p3 : PopIs (revZ x) (popN x.toNat) := pop_is r0 r1 (by
    obtain ⟨m, rfl⟩ := Int.eq_ofNat_of_zero_le x0
    have e : (revZ (m : Int)).toNat = m % 256 * 16777216 + m / 256 % 256 * 65536 + m / 65536 % 256 * 256 + m / 16777216 := by
      rw [rev_nat, Int.toNat_natCast]
    rw [e, popN_rev (by omega), Int.toNat_natCast])
  have p4 := pop_is (x := 4294967295 - x) (by omega) (by omega) rfl
  have pq := popN_not 32 x.toNat (by omega)
  rw [show 2 ^ 32 - 1 - x.toNat = (4294967295 - x).toNat by omega] at pq
  have d3 := do_6 x n x0 x1 n0 n1
  have u0 : 0 ≤ shlZ x n := by unfold shlZ; omega
  have u1 : shlZ x n < 4294967296 := by unfold shlZ; omega
  have d4 := do_7 (shlZ x n) n u0 u1 n0 n1
  have hud : shrZ (shlZ x n) n = x % 2 ^ (32 - t) := by
    unfold shrZ shlZ
    rw [hT, Int.toNat_natCast, up_down x0 x1 (by omega)]
  rw [hud] at d4
  obtain ⟨j, hj⟩ := size_ex x x0 x1
  have k := clz_is x0 x1 hj
  have P1 : popN x.toNat ≤ 32 := by omega
  have Q1 : popN (4294967295 - x).toNat ≤ 32 := by omega
  have zz : (x = 0 ∧ j = 0) ∨ (x ≠ 0 ∧ 0 < j ∧ DoIs 7 x (31 - (32 - (j : Int))) 1) := by
    by_cases c : j = 0
    · left
      refine ⟨?_, c⟩
      have := hj.2.1
      rw [c] at this
      simpa using this
    · right
      obtain ⟨i, rfl⟩ : ∃ i, j = i + 1 := ⟨j - 1, by omega⟩
      have h1 := size_last x0 hj
      have hi := hj.1
      refine ⟨fun e => ?_, by omega, ?_⟩
      · rw [e] at h1; simp at h1
      · have d5 := do_7 x (31 - (32 - ((i + 1 : Nat) : Int))) x0 x1 (by omega) (by omega)
        have e : shrZ x (31 - (32 - ((i + 1 : Nat) : Int))) = 1 := by
          unfold shrZ
          rw [show ((31 - (32 - ((i + 1 : Nat) : Int))) % 32).toNat = i by omega, h1]
        rw [e] at d5
        exact d5
  have hS : (32 : Int) - (t : Int) = ((32 - t : Nat) : Int) := by omega
  rw [hS] at d2
  by_cases c : t = 0
  · subst c
    have hv : x % 2 ^ (32 - 0) = x := by
      rw [show (2 : Int) ^ (32 - 0) = 4294967296 from rfl]
      omega
    rw [hv] at d4
    rcases zz with ⟨z1, z2⟩ | ⟨z1, z2, d5⟩
    · exact turns_ba x n _ _ _ _ _ _ _ _ _ w htm T1 T0 hS (by omega) (by omega) d1 d2 p1 p2 (rev_is x0 x1) p3 r2 hx p4 (by omega) (by omega) (by omega) (by omega) (by omega) d3 k (by rfl) (by rfl) d4 (beq_iff_eq.2 z1) (beq_iff_eq.2 (by omega))
    · have hz := hj.1
      exact turns_bb x n _ _ _ _ _ _ _ _ _ w htm T1 T0 hS (by omega) (by omega) d1 d2 p1 p2 (rev_is x0 x1) p3 r2 hx p4 (by omega) (by omega) (by omega) (by omega) (by omega) d3 k (by rfl) (by rfl) d4 (beq_eq_false_iff_ne.2 z1) (beq_eq_false_iff_ne.2 (by omega)) (by omega) (by omega) d5
  · have ne : ((t : Int) == 0) = false := beq_eq_false_iff_ne.2 (by omega)
    have ne2 : ((t : Int) != 0) = true := by rw [bne, ne]; rfl
    obtain ⟨M0, M1⟩ := pow_bounds (s := 32 - t) (by omega)
    have hM : (2 : Int) ^ (((32 - t : Nat) : Int)).toNat % 4294967296 = 2 ^ (32 - t) := by
      rw [Int.toNat_natCast, Int.emod_eq_of_lt (by omega) M1]
    have hv : x.tmod (2 ^ (32 - t)) = x % 2 ^ (32 - t) := Int.tmod_eq_emod_of_nonneg x0
    rcases zz with ⟨z1, z2⟩ | ⟨z1, z2, d5⟩
    · exact turns_aa x n _ _ _ _ _ _ _ _ _ w htm T1 T0 hS (by omega) (by omega) d1 d2 p1 p2 (rev_is x0 x1) p3 r2 hx p4 (by omega) (by omega) (by omega) (by omega) (by omega) d3 k ne ne2 _ _ hM M0 M1 d4 hv (beq_iff_eq.2 z1) (beq_iff_eq.2 (by omega))
    · have hz := hj.1
      exact turns_ab x n _ _ _ _ _ _ _ _ _ w htm T1 T0 hS (by omega) (by omega) d1 d2 p1 p2 (rev_is x0 x1) p3 r2 hx p4 (by omega) (by omega) (by omega) (by omega) (by omega) d3 k ne ne2 _ _ hM M0 M1 d4 hv (beq_eq_false_iff_ne.2 z1) (beq_eq_false_iff_ne.2 (by omega)) (by omega) (by omega) d5
end Go.Proofs.Yteepcoigihbdoaa.My
