/- The plain law of the reference's bits: the words that it fills are the sums, moves and turns. -/
import Derived.Test.YteepcoigihbdoaaAluRef
import Derived.Test.YteepcoigihbdoaaAluTurnsPlain
set_option linter.unusedVariables false
namespace Go.Proofs.Yteepcoigihbdoaa.My
open Go.RowKit
theorem wordN_nat : ∀ (xs : List Int) (X : Nat), X < 2 ^ xs.length → (∀ i, i < xs.length → xs.getD i 0 = ((X / 2 ^ i % 2 : Nat) : Int)) → wordN xs = (X : Int)
  | [], X, hx, _ => by
    have : X = 0 := by simpa using hx
    subst this
    rfl
  | b :: r, X, hx, h => by
    have h0 := h 0 (by simp)
    have e0 : b = ((X % 2 : Nat) : Int) := by simpa using h0
    have ih := wordN_nat r (X / 2) (by rw [List.length_cons, Nat.pow_succ] at hx; omega) (fun i hi => by
      have := h (i + 1) (by simp; omega)
      rw [List.getD_cons_succ] at this
      rw [this, Nat.div_div_eq_div_mul, Nat.pow_succ, Nat.mul_comm 2])
    rw [wordN, ih, e0]
    omega
theorem fill_word {f : Nat → Int} {X : Nat} (hx : X < 4294967296) (h : ∀ i, i < 32 → f i = (((X.testBit i).toNat : Nat) : Int)) : wordN (fillF f 32) = (X : Int) :=
  wordN_nat _ X (by rw [fill_len]; exact hx) (fun i hi => by
    rw [fill_len] at hi
    rw [fill_get, if_pos ⟨hi, hi⟩, h i hi, Nat.toNat_testBit])
theorem bitZ_tb (a k : Nat) : bitZ (a : Int) k = (((a.testBit k).toNat : Nat) : Int) := by rw [bit_nat, Nat.toNat_testBit]
theorem tb_big {a : Nat} (h : a < 4294967296) {i : Nat} (hi : 32 ≤ i) : a.testBit i = false :=
  Nat.testBit_lt_two_pow (Nat.lt_of_lt_of_le (by simpa using h) (Nat.pow_le_pow_right (n := 2) (by decide) hi))
theorem logF_and {a b : Nat} (ha : a < 4294967296) (hb : b < 4294967296) : wordN (fillF (logF a b 2 2) 32) = ((a &&& b : Nat) : Int) :=
  fill_word (Nat.lt_of_le_of_lt Nat.and_le_left ha) fun i _ => by
    unfold logF
    rw [bitZ_tb, bitZ_tb, Nat.testBit_and]
    cases a.testBit i <;> cases b.testBit i <;> rfl
theorem logF_or {a b : Nat} (ha : a < 4294967296) (hb : b < 4294967296) : wordN (fillF (logF a b 1 2) 32) = ((a ||| b : Nat) : Int) :=
  fill_word (Nat.or_lt_two_pow (n := 32) ha hb) fun i _ => by
    unfold logF
    rw [bitZ_tb, bitZ_tb, Nat.testBit_or]
    cases a.testBit i <;> cases b.testBit i <;> rfl
theorem logF_xor {a b : Nat} (ha : a < 4294967296) (hb : b < 4294967296) : wordN (fillF (logF a b 1 1) 32) = ((a ^^^ b : Nat) : Int) :=
  fill_word (Nat.xor_lt_two_pow (n := 32) ha hb) fun i _ => by
    unfold logF
    rw [bitZ_tb, bitZ_tb, Nat.testBit_xor]
    cases a.testBit i <;> cases b.testBit i <;> rfl
theorem mov_up {a k : Nat} (hk : k < 32) : wordN (fillF (movF a (-(k : Int)) 0) 32) = ((a * 2 ^ k % 4294967296 : Nat) : Int) :=
  fill_word (Nat.mod_lt _ (by decide)) fun i hi => by
    unfold movF
    rw [show (4294967296 : Nat) = 2 ^ 32 from rfl, Nat.testBit_mod_two_pow, Nat.testBit_mul_two_pow]
    by_cases h : k ≤ i
    · rw [if_pos (by omega), show ((i : Int) + -(k : Int)).toNat = i - k by omega, bitZ_tb]
      simp [h, hi]
    · rw [if_neg (by omega)]
      simp [h]
theorem mov_down {a k : Nat} (ha : a < 4294967296) (hk : k < 32) : wordN (fillF (movF a (k : Int) 0) 32) = ((a / 2 ^ k : Nat) : Int) :=
  fill_word (Nat.lt_of_le_of_lt (Nat.div_le_self _ _) ha) fun i hi => by
    unfold movF
    rw [Nat.testBit_div_two_pow]
    by_cases h : i + k < 32
    · rw [if_pos (by omega), show ((i : Int) + (k : Int)).toNat = i + k by omega, bitZ_tb]
    · rw [if_neg (by omega), tb_big ha (by omega)]
      rfl
theorem mov_sign {a k : Nat} (ha : a < 4294967296) (hk : k < 32) : wordN (fillF (movF a (k : Int) 1) 32) = ((2 ^ (32 - k) * (2 ^ k - 1) + a / 2 ^ k : Nat) : Int) := by
  have hp : 2 ^ (32 - k) * 2 ^ k = 4294967296 := by rw [← Nat.pow_add, show 32 - k + k = 32 by omega]
  have h1 : a / 2 ^ k < 2 ^ (32 - k) := Nat.div_lt_of_lt_mul (by rw [Nat.mul_comm, hp]; exact ha)
  have h2 : 2 ^ (32 - k) * (2 ^ k - 1) + 2 ^ (32 - k) = 4294967296 := by
    rw [← hp, Nat.mul_sub, Nat.mul_one]
    have : 2 ^ (32 - k) ≤ 2 ^ (32 - k) * 2 ^ k := Nat.le_mul_of_pos_right _ (Nat.two_pow_pos k)
    omega
  refine fill_word (by omega) fun i hi => ?_
  unfold movF
  rw [Nat.testBit_two_pow_mul_add _ h1, Nat.testBit_div_two_pow, Nat.testBit_two_pow_sub_one]
  by_cases h : i + k < 32
  · rw [if_pos (by omega), if_pos (by omega), show ((i : Int) + (k : Int)).toNat = i + k by omega, bitZ_tb]
  · rw [if_neg (by omega), if_neg (by omega)]
    simp [show i - (32 - k) < k by omega]
theorem turn_word {a k s : Nat} (ha : a < 4294967296) (hk : k < 32) (hs : s = (32 - k) % 32) : wordN (fillF (fun i => bitZ a ((i + k) % 32)) 32) = ((a * 2 ^ s % 4294967296 + a / 2 ^ (32 - s) : Nat) : Int) := by
  have h32 : s < 32 := by omega
  have hp : 2 ^ (32 - s) * 2 ^ s = 4294967296 := by rw [← Nat.pow_add, show 32 - s + s = 32 by omega]
  have h1 : a / 2 ^ (32 - s) < 2 ^ s := Nat.div_lt_of_lt_mul (by rw [hp]; exact ha)
  have h3 : a % 2 ^ (32 - s) < 2 ^ (32 - s) := Nat.mod_lt _ (Nat.two_pow_pos _)
  rw [mul_mod32 a (by omega), Nat.mul_comm]
  refine fill_word ?_ fun i hi => ?_
  · have h4 : 2 ^ s * (a % 2 ^ (32 - s)) + 2 ^ s ≤ 4294967296 := by
      rw [← hp, Nat.mul_comm (2 ^ (32 - s)), ← Nat.mul_succ]
      exact Nat.mul_le_mul_left _ h3
    omega
  · show bitZ (a : Int) ((i + k) % 32) = _
    rw [Nat.testBit_two_pow_mul_add _ h1, bitZ_tb, Nat.testBit_div_two_pow, Nat.testBit_mod_two_pow]
    by_cases h : i < s
    · rw [if_pos h, show (i + k) % 32 = i + (32 - s) by omega]
    · rw [if_neg h, show (i + k) % 32 = i - s by omega]
      simp [show i - s < 32 - s by omega]
end Go.Proofs.Yteepcoigihbdoaa.My
