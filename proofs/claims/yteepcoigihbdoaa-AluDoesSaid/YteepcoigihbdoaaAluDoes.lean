/- The law of any operation: the program's answer is the reference's. -/
import Derived.Test.YteepcoigihbdoaaAluRefDo
import Derived.BigQuiet
set_option linter.unusedVariables false
namespace Go.Proofs.Yteepcoigihbdoaa.My
open Go.RowKit
theorem rdo_of {op a b v : Int} {t : Bool} (h : RDoTo op a b v t) (w : World) : Calls Try.prog 9 #[.int .i64 op, .int .u32 a, .int .u32 b] w fun e w' => e = .returned (.tuple #[.int .u32 v, .bool t]) ∧ Below w.heap.size w w' := h.out w
theorem rtaken_of {op a b : Int} {t : Bool} (h : RTakenIs op a b t) (w : World) : Calls Try.prog 11 #[.int .i64 op, .int .u32 a, .int .u32 b] w fun e w' => e = .returned (.bool t) ∧ w = w' := h.out w
theorem does_walk (op a b v : Int) (t k : Bool) (w : World) (d : DoTo op a b v t) (r : RDoTo op a b v t) (p : TakenIs op a b k) (q : RTakenIs op a b k) : Calls Try.prog 3 #[.int .i64 op, .int .u32 a, .int .u32 b] w fun e w' => e = .returned (.bool true) ∧ Below w.heap.size w w' := by
  have HB := startB w
  have e1 : (t == t) = true := beq_self_eq_true t
  have e2 : (k == k) = true := beq_self_eq_true k
  go_enter Try.func3, Try.ntmps3
  go_wp2_with (first | (go_at_call 8; refine (do_of (by assumption) _).mono ?_; rintro e w1 ⟨rfl, rfl⟩) | (go_at_call 9; refine (rdo_of (by assumption) _).mono ?_; rintro e w1 ⟨rfl, hb⟩; replace HB := keepB HB hb; clear hb) | (go_at_call 10; refine (taken_of (by assumption) _).mono ?_; rintro e w1 ⟨rfl, rfl⟩) | (go_at_call 11; refine (rtaken_of (by assumption) _).mono ?_; rintro e w1 ⟨rfl, rfl⟩) | (go_at_call 12; refine (awake_any _).mono ?_; rintro e w1 ⟨rfl, rfl⟩))
  go_ret
  exact ⟨rfl, HB.out.1⟩
theorem l_and (a b : Int) (a0 : 0 ≤ a) (a1 : a < 4294967296) (b0 : 0 ≤ b) (b1 : b < 4294967296) : wordN (fillF (logF a b 2 2) 32) = bits .and .u32 a b := by
  rw [u32_and a b a0 a1 b0 b1]
  obtain ⟨A, rfl⟩ := Int.eq_ofNat_of_zero_le a0
  obtain ⟨B, rfl⟩ := Int.eq_ofNat_of_zero_le b0
  exact logF_and (by omega) (by omega)
theorem l_or (a b : Int) (a0 : 0 ≤ a) (a1 : a < 4294967296) (b0 : 0 ≤ b) (b1 : b < 4294967296) : wordN (fillF (logF a b 1 2) 32) = bits .or .u32 a b := by
  rw [u32_or a b a0 a1 b0 b1]
  obtain ⟨A, rfl⟩ := Int.eq_ofNat_of_zero_le a0
  obtain ⟨B, rfl⟩ := Int.eq_ofNat_of_zero_le b0
  exact logF_or (by omega) (by omega)
theorem l_xor (a b : Int) (a0 : 0 ≤ a) (a1 : a < 4294967296) (b0 : 0 ≤ b) (b1 : b < 4294967296) : wordN (fillF (logF a b 1 1) 32) = bits .xor .u32 a b := by
  rw [u32_xor a b a0 a1 b0 b1]
  obtain ⟨A, rfl⟩ := Int.eq_ofNat_of_zero_le a0
  obtain ⟨B, rfl⟩ := Int.eq_ofNat_of_zero_le b0
  exact logF_xor (by omega) (by omega)
theorem l_shl (a b : Int) (a0 : 0 ≤ a) (a1 : a < 4294967296) (b0 : 0 ≤ b) (b1 : b < 4294967296) : wordN (fillF (movF a (-(b % 32)) 0) 32) = shlZ a b := by
  obtain ⟨A, rfl⟩ := Int.eq_ofNat_of_zero_le a0
  obtain ⟨k, hk⟩ := Int.eq_ofNat_of_zero_le (show 0 ≤ b % 32 by omega)
  unfold shlZ
  rw [hk, mov_up (by omega), Int.toNat_natCast, Int.natCast_emod, Int.natCast_mul, Int.natCast_pow]
  rfl
theorem l_shr (a b : Int) (a0 : 0 ≤ a) (a1 : a < 4294967296) (b0 : 0 ≤ b) (b1 : b < 4294967296) : wordN (fillF (movF a (b % 32) 0) 32) = shrZ a b := by
  obtain ⟨A, rfl⟩ := Int.eq_ofNat_of_zero_le a0
  obtain ⟨k, hk⟩ := Int.eq_ofNat_of_zero_le (show 0 ≤ b % 32 by omega)
  unfold shrZ
  rw [hk, mov_down (by omega) (by omega), Int.toNat_natCast, Int.natCast_ediv, Int.natCast_pow]
  rfl
theorem neg_shift {A k : Nat} (hk : k < 32) (h1 : 2147483648 ≤ A) (h2 : A < 4294967296) : ((A : Int) - 4294967296) / 2 ^ k % 4294967296 = ((2 ^ (32 - k) * (2 ^ k - 1) + A / 2 ^ k : Nat) : Int) := by
  have hp : 2 ^ (32 - k) * 2 ^ k = 4294967296 := by rw [← Nat.pow_add, show 32 - k + k = 32 by omega]
  have hq : 0 < 2 ^ k := Nat.two_pow_pos k
  have h3 : A / 2 ^ k < 2 ^ (32 - k) := Nat.div_lt_of_lt_mul (by rw [Nat.mul_comm, hp]; exact h2)
  have h4 : 2 ^ (32 - k) ≤ 4294967296 := by rw [← hp]; exact Nat.le_mul_of_pos_right _ hq
  have h5 : 2 ^ (32 - k) * (2 ^ k - 1) = 4294967296 - 2 ^ (32 - k) := by rw [Nat.mul_sub, Nat.mul_one, hp]
  have e1 : ((A : Int) - 4294967296) = (A : Int) + (-((2 ^ (32 - k) : Nat) : Int)) * ((2 ^ k : Nat) : Int) := by
    have : ((2 ^ (32 - k) : Nat) : Int) * ((2 ^ k : Nat) : Int) = 4294967296 := by rw [← Int.natCast_mul, hp]; rfl
    rw [Int.neg_mul, this]; omega
  have e2 : (2 : Int) ^ k = ((2 ^ k : Nat) : Int) := by rw [Int.natCast_pow]; rfl
  rw [e2, e1, Int.add_mul_ediv_right _ _ (by omega), ← Int.natCast_ediv, h5]
  generalize 2 ^ (32 - k) = X at *
  generalize A / 2 ^ k = Y at *
  omega
theorem l_sra (a b : Int) (a0 : 0 ≤ a) (a1 : a < 4294967296) (b0 : 0 ≤ b) (b1 : b < 4294967296) : wordN (fillF (movF a (b % 32) (bitZ a 31)) 32) = sraZ a b := by
  unfold sraZ
  by_cases h : 2147483648 ≤ a
  · have e : bitZ a 31 = 1 := by unfold bitZ; omega
    rw [e, show sgn a = a - 4294967296 from if_pos h]
    obtain ⟨A, rfl⟩ := Int.eq_ofNat_of_zero_le a0
    obtain ⟨k, hk⟩ := Int.eq_ofNat_of_zero_le (show 0 ≤ b % 32 by omega)
    rw [hk, mov_sign (by omega) (by omega), Int.toNat_natCast]
    exact (neg_shift (by omega) (by omega) (by omega)).symm
  · have e : bitZ a 31 = 0 := by unfold bitZ; omega
    rw [e, show sgn a = a from if_neg h, l_shr a b a0 a1 b0 b1]
    unfold shrZ
    have h1 := Int.ediv_le_self (2 ^ (b % 32).toNat) a0
    have h2 := pow_nn a0 (b % 32).toNat
    exact (Int.emod_eq_of_lt h2 (by omega)).symm
theorem l_rot (a b : Int) (a0 : 0 ≤ a) (a1 : a < 4294967296) (b0 : 0 ≤ b) (b1 : b < 4294967296) : wordN (fillF (fun i => bitZ a ((i + (b % 32).toNat) % 32)) 32) = rotS a ((32 - (b % 32).toNat) % 32) := by
  obtain ⟨A, rfl⟩ := Int.eq_ofNat_of_zero_le a0
  rw [rot_nat]
  exact turn_word (by omega) (by omega) rfl
theorem does_any (op a b : Int) (w : World) (a0 : 0 ≤ a) (a1 : a < 4294967296) (b0 : 0 ≤ b) (b1 : b < 4294967296) : Calls Try.prog 3 #[.int .i64 op, .int .u32 a, .int .u32 b] w fun e w' => e = .returned (.bool true) ∧ Below w.heap.size w w' := by
  by_cases h1 : op = 1
  · subst h1
    exact does_walk _ _ _ _ _ _ w (do_add a b a0 a1 b0 b1) (rdo_1 a b a0 a1 b0 b1) (taken_no _ _ _ rfl rfl rfl rfl rfl rfl) (rtaken_no _ _ _ rfl rfl rfl rfl rfl rfl)
  by_cases h25 : op = 25
  · subst h25
    exact does_walk _ _ _ _ _ _ w (do_addi a b a0 a1 b0 b1) (rdo_25 a b a0 a1 b0 b1) (taken_no _ _ _ rfl rfl rfl rfl rfl rfl) (rtaken_no _ _ _ rfl rfl rfl rfl rfl rfl)
  by_cases h2 : op = 2
  · subst h2
    exact does_walk _ _ _ _ _ _ w (do_sub a b a0 a1 b0 b1) (rdo_2 a b a0 a1 b0 b1) (taken_no _ _ _ rfl rfl rfl rfl rfl rfl) (rtaken_no _ _ _ rfl rfl rfl rfl rfl rfl)
  by_cases h9 : op = 9
  · subst h9
    exact does_walk _ _ _ _ _ _ w (do_slt a b a0 a1 b0 b1) (rdo_9 a b a0 a1 b0 b1) (taken_no _ _ _ rfl rfl rfl rfl rfl rfl) (rtaken_no _ _ _ rfl rfl rfl rfl rfl rfl)
  by_cases h29 : op = 29
  · subst h29
    exact does_walk _ _ _ _ _ _ w (do_slti a b a0 a1 b0 b1) (rdo_29 a b a0 a1 b0 b1) (taken_no _ _ _ rfl rfl rfl rfl rfl rfl) (rtaken_no _ _ _ rfl rfl rfl rfl rfl rfl)
  by_cases h10 : op = 10
  · subst h10
    exact does_walk _ _ _ _ _ _ w (do_sltu a b a0 a1 b0 b1) (rdo_10 a b a0 a1 b0 b1) (taken_no _ _ _ rfl rfl rfl rfl rfl rfl) (rtaken_no _ _ _ rfl rfl rfl rfl rfl rfl)
  by_cases h18 : op = 18
  · subst h18
    exact does_walk _ _ _ _ _ _ w (do_min a b a0 a1 b0 b1) (rdo_18 a b a0 a1 b0 b1) (taken_no _ _ _ rfl rfl rfl rfl rfl rfl) (rtaken_no _ _ _ rfl rfl rfl rfl rfl rfl)
  by_cases h19 : op = 19
  · subst h19
    exact does_walk _ _ _ _ _ _ w (do_max a b a0 a1 b0 b1) (rdo_19 a b a0 a1 b0 b1) (taken_no _ _ _ rfl rfl rfl rfl rfl rfl) (rtaken_no _ _ _ rfl rfl rfl rfl rfl rfl)
  by_cases h33 : op = 33
  · subst h33
    exact does_walk _ _ _ _ _ _ w (do_33 a b) (rdo_33 a b a0 a1 b0 b1) (taken_no _ _ _ rfl rfl rfl rfl rfl rfl) (rtaken_no _ _ _ rfl rfl rfl rfl rfl rfl)
  by_cases h21 : op = 21
  · subst h21
    obtain ⟨j, hj⟩ := size_ex a a0 a1
    exact does_walk _ _ _ _ _ _ w (do_21 a b _ (single_21 a j a0 a1 hj)) (rdo_21 a b j a0 a1 b0 b1 hj) (taken_no _ _ _ rfl rfl rfl rfl rfl rfl) (rtaken_no _ _ _ rfl rfl rfl rfl rfl rfl)
  by_cases h22 : op = 22
  · subst h22
    have hp := popN_le a.toNat
    exact does_walk _ _ _ _ _ _ w (do_22 a b _ (single_22 a _ a0 a1 rfl (by omega))) (rdo_22 a b _ a0 a1 b0 b1 rfl (by omega)) (taken_no _ _ _ rfl rfl rfl rfl rfl rfl) (rtaken_no _ _ _ rfl rfl rfl rfl rfl rfl)
  by_cases h23 : op = 23
  · subst h23
    exact does_walk _ _ _ _ _ _ w (do_23 a b _ (single_23 a a0 a1)) (rdo_23 a b a0 a1 b0 b1) (taken_no _ _ _ rfl rfl rfl rfl rfl rfl) (rtaken_no _ _ _ rfl rfl rfl rfl rfl rfl)
  by_cases h3 : op = 3
  · subst h3
    exact does_walk _ _ _ _ _ _ w (do_3 a b a0 a1 b0 b1) (l_and a b a0 a1 b0 b1 ▸ rdo_3 a b a0 a1 b0 b1) (taken_no _ _ _ rfl rfl rfl rfl rfl rfl) (rtaken_no _ _ _ rfl rfl rfl rfl rfl rfl)
  by_cases h26 : op = 26
  · subst h26
    exact does_walk _ _ _ _ _ _ w (do_26 a b a0 a1 b0 b1) (l_and a b a0 a1 b0 b1 ▸ rdo_26 a b a0 a1 b0 b1) (taken_no _ _ _ rfl rfl rfl rfl rfl rfl) (rtaken_no _ _ _ rfl rfl rfl rfl rfl rfl)
  by_cases h4 : op = 4
  · subst h4
    exact does_walk _ _ _ _ _ _ w (do_4 a b a0 a1 b0 b1) (l_or a b a0 a1 b0 b1 ▸ rdo_4 a b a0 a1 b0 b1) (taken_no _ _ _ rfl rfl rfl rfl rfl rfl) (rtaken_no _ _ _ rfl rfl rfl rfl rfl rfl)
  by_cases h27 : op = 27
  · subst h27
    exact does_walk _ _ _ _ _ _ w (do_27 a b a0 a1 b0 b1) (l_or a b a0 a1 b0 b1 ▸ rdo_27 a b a0 a1 b0 b1) (taken_no _ _ _ rfl rfl rfl rfl rfl rfl) (rtaken_no _ _ _ rfl rfl rfl rfl rfl rfl)
  by_cases h5 : op = 5
  · subst h5
    exact does_walk _ _ _ _ _ _ w (do_5 a b a0 a1 b0 b1) (l_xor a b a0 a1 b0 b1 ▸ rdo_5 a b a0 a1 b0 b1) (taken_no _ _ _ rfl rfl rfl rfl rfl rfl) (rtaken_no _ _ _ rfl rfl rfl rfl rfl rfl)
  by_cases h28 : op = 28
  · subst h28
    exact does_walk _ _ _ _ _ _ w (do_28 a b a0 a1 b0 b1) (l_xor a b a0 a1 b0 b1 ▸ rdo_28 a b a0 a1 b0 b1) (taken_no _ _ _ rfl rfl rfl rfl rfl rfl) (rtaken_no _ _ _ rfl rfl rfl rfl rfl rfl)
  by_cases h6 : op = 6
  · subst h6
    exact does_walk _ _ _ _ _ _ w (do_6 a b a0 a1 b0 b1) (l_shl a b a0 a1 b0 b1 ▸ rdo_6 a b a0 a1 b0 b1) (taken_no _ _ _ rfl rfl rfl rfl rfl rfl) (rtaken_no _ _ _ rfl rfl rfl rfl rfl rfl)
  by_cases h30 : op = 30
  · subst h30
    exact does_walk _ _ _ _ _ _ w (do_30 a b a0 a1 b0 b1) (l_shl a b a0 a1 b0 b1 ▸ rdo_30 a b a0 a1 b0 b1) (taken_no _ _ _ rfl rfl rfl rfl rfl rfl) (rtaken_no _ _ _ rfl rfl rfl rfl rfl rfl)
  by_cases h7 : op = 7
  · subst h7
    exact does_walk _ _ _ _ _ _ w (do_7 a b a0 a1 b0 b1) (l_shr a b a0 a1 b0 b1 ▸ rdo_7 a b a0 a1 b0 b1) (taken_no _ _ _ rfl rfl rfl rfl rfl rfl) (rtaken_no _ _ _ rfl rfl rfl rfl rfl rfl)
  by_cases h31 : op = 31
  · subst h31
    exact does_walk _ _ _ _ _ _ w (do_31 a b a0 a1 b0 b1) (l_shr a b a0 a1 b0 b1 ▸ rdo_31 a b a0 a1 b0 b1) (taken_no _ _ _ rfl rfl rfl rfl rfl rfl) (rtaken_no _ _ _ rfl rfl rfl rfl rfl rfl)
  by_cases h8 : op = 8
  · subst h8
    exact does_walk _ _ _ _ _ _ w (do_8 a b a0 a1 b0 b1) (l_sra a b a0 a1 b0 b1 ▸ rdo_8 a b a0 a1 b0 b1) (taken_no _ _ _ rfl rfl rfl rfl rfl rfl) (rtaken_no _ _ _ rfl rfl rfl rfl rfl rfl)
  by_cases h32 : op = 32
  · subst h32
    exact does_walk _ _ _ _ _ _ w (do_32 a b a0 a1 b0 b1) (l_sra a b a0 a1 b0 b1 ▸ rdo_32 a b a0 a1 b0 b1) (taken_no _ _ _ rfl rfl rfl rfl rfl rfl) (rtaken_no _ _ _ rfl rfl rfl rfl rfl rfl)
  by_cases h20 : op = 20
  · subst h20
    exact does_walk _ _ _ _ _ _ w (do_20 a b _ a0 a1 b0 b1 (by omega)) (l_rot a b a0 a1 b0 b1 ▸ rdo_20 a b a0 a1 b0 b1) (taken_no _ _ _ rfl rfl rfl rfl rfl rfl) (rtaken_no _ _ _ rfl rfl rfl rfl rfl rfl)
  by_cases h43 : op = 43
  · subst h43
    exact does_walk _ _ _ _ _ _ w (do_no _ a b rfl rfl rfl rfl rfl rfl rfl rfl rfl rfl rfl rfl rfl rfl rfl rfl rfl rfl rfl rfl rfl rfl rfl rfl rfl) (rdo_no _ a b b0 b1 rfl rfl rfl rfl rfl rfl rfl rfl rfl rfl rfl rfl rfl rfl rfl rfl rfl rfl rfl rfl rfl rfl rfl rfl rfl) (taken_43 a b a0 a1 b0 b1) (rtaken_43 a b a0 a1 b0 b1)
  by_cases h44 : op = 44
  · subst h44
    exact does_walk _ _ _ _ _ _ w (do_no _ a b rfl rfl rfl rfl rfl rfl rfl rfl rfl rfl rfl rfl rfl rfl rfl rfl rfl rfl rfl rfl rfl rfl rfl rfl rfl) (rdo_no _ a b b0 b1 rfl rfl rfl rfl rfl rfl rfl rfl rfl rfl rfl rfl rfl rfl rfl rfl rfl rfl rfl rfl rfl rfl rfl rfl rfl) (taken_44 a b a0 a1 b0 b1) (rtaken_44 a b a0 a1 b0 b1)
  by_cases h45 : op = 45
  · subst h45
    exact does_walk _ _ _ _ _ _ w (do_no _ a b rfl rfl rfl rfl rfl rfl rfl rfl rfl rfl rfl rfl rfl rfl rfl rfl rfl rfl rfl rfl rfl rfl rfl rfl rfl) (rdo_no _ a b b0 b1 rfl rfl rfl rfl rfl rfl rfl rfl rfl rfl rfl rfl rfl rfl rfl rfl rfl rfl rfl rfl rfl rfl rfl rfl rfl) (taken_45 a b a0 a1 b0 b1) (rtaken_45 a b a0 a1 b0 b1)
  by_cases h46 : op = 46
  · subst h46
    exact does_walk _ _ _ _ _ _ w (do_no _ a b rfl rfl rfl rfl rfl rfl rfl rfl rfl rfl rfl rfl rfl rfl rfl rfl rfl rfl rfl rfl rfl rfl rfl rfl rfl) (rdo_no _ a b b0 b1 rfl rfl rfl rfl rfl rfl rfl rfl rfl rfl rfl rfl rfl rfl rfl rfl rfl rfl rfl rfl rfl rfl rfl rfl rfl) (taken_46 a b a0 a1 b0 b1) (rtaken_46 a b a0 a1 b0 b1)
  by_cases h47 : op = 47
  · subst h47
    exact does_walk _ _ _ _ _ _ w (do_no _ a b rfl rfl rfl rfl rfl rfl rfl rfl rfl rfl rfl rfl rfl rfl rfl rfl rfl rfl rfl rfl rfl rfl rfl rfl rfl) (rdo_no _ a b b0 b1 rfl rfl rfl rfl rfl rfl rfl rfl rfl rfl rfl rfl rfl rfl rfl rfl rfl rfl rfl rfl rfl rfl rfl rfl rfl) (taken_47 a b a0 a1 b0 b1) (rtaken_47 a b a0 a1 b0 b1)
  by_cases h48 : op = 48
  · subst h48
    exact does_walk _ _ _ _ _ _ w (do_no _ a b rfl rfl rfl rfl rfl rfl rfl rfl rfl rfl rfl rfl rfl rfl rfl rfl rfl rfl rfl rfl rfl rfl rfl rfl rfl) (rdo_no _ a b b0 b1 rfl rfl rfl rfl rfl rfl rfl rfl rfl rfl rfl rfl rfl rfl rfl rfl rfl rfl rfl rfl rfl rfl rfl rfl rfl) (taken_48 a b a0 a1 b0 b1) (rtaken_48 a b a0 a1 b0 b1)
  exact does_walk _ _ _ _ _ _ w (do_no op a b (beq_eq_false_iff_ne.2 h1) (beq_eq_false_iff_ne.2 h25) (beq_eq_false_iff_ne.2 h2) (beq_eq_false_iff_ne.2 h9) (beq_eq_false_iff_ne.2 h29) (beq_eq_false_iff_ne.2 h10) (beq_eq_false_iff_ne.2 h18) (beq_eq_false_iff_ne.2 h19) (beq_eq_false_iff_ne.2 h33) (beq_eq_false_iff_ne.2 h21) (beq_eq_false_iff_ne.2 h22) (beq_eq_false_iff_ne.2 h23) (beq_eq_false_iff_ne.2 h3) (beq_eq_false_iff_ne.2 h26) (beq_eq_false_iff_ne.2 h4) (beq_eq_false_iff_ne.2 h27) (beq_eq_false_iff_ne.2 h5) (beq_eq_false_iff_ne.2 h28) (beq_eq_false_iff_ne.2 h6) (beq_eq_false_iff_ne.2 h30) (beq_eq_false_iff_ne.2 h7) (beq_eq_false_iff_ne.2 h31) (beq_eq_false_iff_ne.2 h8) (beq_eq_false_iff_ne.2 h32) (beq_eq_false_iff_ne.2 h20)) (rdo_no op a b b0 b1 (beq_eq_false_iff_ne.2 h1) (beq_eq_false_iff_ne.2 h25) (beq_eq_false_iff_ne.2 h2) (beq_eq_false_iff_ne.2 h9) (beq_eq_false_iff_ne.2 h29) (beq_eq_false_iff_ne.2 h10) (beq_eq_false_iff_ne.2 h18) (beq_eq_false_iff_ne.2 h19) (beq_eq_false_iff_ne.2 h33) (beq_eq_false_iff_ne.2 h21) (beq_eq_false_iff_ne.2 h22) (beq_eq_false_iff_ne.2 h23) (beq_eq_false_iff_ne.2 h3) (beq_eq_false_iff_ne.2 h26) (beq_eq_false_iff_ne.2 h4) (beq_eq_false_iff_ne.2 h27) (beq_eq_false_iff_ne.2 h5) (beq_eq_false_iff_ne.2 h28) (beq_eq_false_iff_ne.2 h6) (beq_eq_false_iff_ne.2 h30) (beq_eq_false_iff_ne.2 h7) (beq_eq_false_iff_ne.2 h31) (beq_eq_false_iff_ne.2 h8) (beq_eq_false_iff_ne.2 h32) (beq_eq_false_iff_ne.2 h20)) (taken_no op a b (beq_eq_false_iff_ne.2 h43) (beq_eq_false_iff_ne.2 h44) (beq_eq_false_iff_ne.2 h45) (beq_eq_false_iff_ne.2 h46) (beq_eq_false_iff_ne.2 h47) (beq_eq_false_iff_ne.2 h48)) (rtaken_no op a b (beq_eq_false_iff_ne.2 h43) (beq_eq_false_iff_ne.2 h44) (beq_eq_false_iff_ne.2 h45) (beq_eq_false_iff_ne.2 h46) (beq_eq_false_iff_ne.2 h47) (beq_eq_false_iff_ne.2 h48))
end Go.Proofs.Yteepcoigihbdoaa.My
