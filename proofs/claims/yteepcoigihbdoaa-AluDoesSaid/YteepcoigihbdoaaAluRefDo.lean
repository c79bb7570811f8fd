/- The reference's Do and Taken: what each operation answers. -/
import Derived.Test.YteepcoigihbdoaaAluPlain
set_option linter.unusedVariables false
namespace Go.Proofs.Yteepcoigihbdoaa.My
open Go.RowKit
theorem turned_int (a k : Int) (w : World) (a0 : 0 ≤ a) (a1 : a < 4294967296) (k0 : 0 ≤ k) (hk : k < 32) : Calls Try.prog 30 #[.int .u32 a, .int .i64 k] w fun e w' => e = .returned (.int .u32 (wordN (fillF (fun i => bitZ a ((i + k.toNat) % 32)) 32))) ∧ Below w.heap.size w w' := by
  obtain ⟨n, rfl⟩ := Int.eq_ofNat_of_zero_le k0
  exact turned_any a n w a0 a1 (by omega)
/-- The reference's operation answers this number, and whether it is one. -/
structure RDoTo (op a b v : Int) (t : Bool) : Prop where
  out : ∀ w, Calls Try.prog 9 #[.int .i64 op, .int .u32 a, .int .u32 b] w fun e w' => e = .returned (.tuple #[.int .u32 v, .bool t]) ∧ Below w.heap.size w w'
structure RTakenIs (op a b : Int) (t : Bool) : Prop where
  out : ∀ w, Calls Try.prog 11 #[.int .i64 op, .int .u32 a, .int .u32 b] w fun e w' => e = .returned (.bool t) ∧ w = w'
theorem rdo_1 (a b : Int) (a0 : 0 ≤ a) (a1 : a < 4294967296) (b0 : 0 ≤ b) (b1 : b < 4294967296) : RDoTo 1 a b ((a + b) % 4294967296) true := by
  constructor
  intro w
  have em : b.tmod 32 = b % 32 := Int.tmod_eq_emod_of_nonneg b0
  go_enter Try.func9, Try.ntmps9
  go_wp2
  go_ret2; exact ⟨rfl, Below.refl _ _⟩
theorem rdo_25 (a b : Int) (a0 : 0 ≤ a) (a1 : a < 4294967296) (b0 : 0 ≤ b) (b1 : b < 4294967296) : RDoTo 25 a b ((a + b) % 4294967296) true := by
  constructor
  intro w
  have em : b.tmod 32 = b % 32 := Int.tmod_eq_emod_of_nonneg b0
  go_enter Try.func9, Try.ntmps9
  go_wp2
  go_ret2; exact ⟨rfl, Below.refl _ _⟩
theorem rdo_2 (a b : Int) (a0 : 0 ≤ a) (a1 : a < 4294967296) (b0 : 0 ≤ b) (b1 : b < 4294967296) : RDoTo 2 a b ((a - b) % 4294967296) true := by
  constructor
  intro w
  have em : b.tmod 32 = b % 32 := Int.tmod_eq_emod_of_nonneg b0
  go_enter Try.func9, Try.ntmps9
  go_wp2
  go_ret2; exact ⟨rfl, Below.refl _ _⟩
theorem rdo_33 (a b : Int) (a0 : 0 ≤ a) (a1 : a < 4294967296) (b0 : 0 ≤ b) (b1 : b < 4294967296) : RDoTo 33 a b (b * 16384 % 4294967296) true := by
  constructor
  intro w
  have em : b.tmod 32 = b % 32 := Int.tmod_eq_emod_of_nonneg b0
  go_enter Try.func9, Try.ntmps9
  go_wp2
  go_ret2; exact ⟨rfl, Below.refl _ _⟩
theorem rdo_3 (a b : Int) (a0 : 0 ≤ a) (a1 : a < 4294967296) (b0 : 0 ≤ b) (b1 : b < 4294967296) : RDoTo 3 a b (wordN (fillF (logF a b 2 2) 32)) true := by
  constructor
  intro w
  have em : b.tmod 32 = b % 32 := Int.tmod_eq_emod_of_nonneg b0
  go_enter Try.func9, Try.ntmps9
  go_wp2_with (go_at_call 25; refine (rlogic_any _ _ _ _ _ a0 a1 b0 b1).mono ?_; rintro e w' ⟨rfl, hb⟩)
  go_ret2; exact ⟨rfl, hb⟩
theorem rdo_26 (a b : Int) (a0 : 0 ≤ a) (a1 : a < 4294967296) (b0 : 0 ≤ b) (b1 : b < 4294967296) : RDoTo 26 a b (wordN (fillF (logF a b 2 2) 32)) true := by
  constructor
  intro w
  have em : b.tmod 32 = b % 32 := Int.tmod_eq_emod_of_nonneg b0
  go_enter Try.func9, Try.ntmps9
  go_wp2_with (go_at_call 25; refine (rlogic_any _ _ _ _ _ a0 a1 b0 b1).mono ?_; rintro e w' ⟨rfl, hb⟩)
  go_ret2; exact ⟨rfl, hb⟩
theorem rdo_4 (a b : Int) (a0 : 0 ≤ a) (a1 : a < 4294967296) (b0 : 0 ≤ b) (b1 : b < 4294967296) : RDoTo 4 a b (wordN (fillF (logF a b 1 2) 32)) true := by
  constructor
  intro w
  have em : b.tmod 32 = b % 32 := Int.tmod_eq_emod_of_nonneg b0
  go_enter Try.func9, Try.ntmps9
  go_wp2_with (go_at_call 25; refine (rlogic_any _ _ _ _ _ a0 a1 b0 b1).mono ?_; rintro e w' ⟨rfl, hb⟩)
  go_ret2; exact ⟨rfl, hb⟩
theorem rdo_27 (a b : Int) (a0 : 0 ≤ a) (a1 : a < 4294967296) (b0 : 0 ≤ b) (b1 : b < 4294967296) : RDoTo 27 a b (wordN (fillF (logF a b 1 2) 32)) true := by
  constructor
  intro w
  have em : b.tmod 32 = b % 32 := Int.tmod_eq_emod_of_nonneg b0
  go_enter Try.func9, Try.ntmps9
  go_wp2_with (go_at_call 25; refine (rlogic_any _ _ _ _ _ a0 a1 b0 b1).mono ?_; rintro e w' ⟨rfl, hb⟩)
  go_ret2; exact ⟨rfl, hb⟩
theorem rdo_5 (a b : Int) (a0 : 0 ≤ a) (a1 : a < 4294967296) (b0 : 0 ≤ b) (b1 : b < 4294967296) : RDoTo 5 a b (wordN (fillF (logF a b 1 1) 32)) true := by
  constructor
  intro w
  have em : b.tmod 32 = b % 32 := Int.tmod_eq_emod_of_nonneg b0
  go_enter Try.func9, Try.ntmps9
  go_wp2_with (go_at_call 25; refine (rlogic_any _ _ _ _ _ a0 a1 b0 b1).mono ?_; rintro e w' ⟨rfl, hb⟩)
  go_ret2; exact ⟨rfl, hb⟩
theorem rdo_28 (a b : Int) (a0 : 0 ≤ a) (a1 : a < 4294967296) (b0 : 0 ≤ b) (b1 : b < 4294967296) : RDoTo 28 a b (wordN (fillF (logF a b 1 1) 32)) true := by
  constructor
  intro w
  have em : b.tmod 32 = b % 32 := Int.tmod_eq_emod_of_nonneg b0
  go_enter Try.func9, Try.ntmps9
  go_wp2_with (go_at_call 25; refine (rlogic_any _ _ _ _ _ a0 a1 b0 b1).mono ?_; rintro e w' ⟨rfl, hb⟩)
  go_ret2; exact ⟨rfl, hb⟩
theorem rdo_6 (a b : Int) (a0 : 0 ≤ a) (a1 : a < 4294967296) (b0 : 0 ≤ b) (b1 : b < 4294967296) : RDoTo 6 a b (wordN (fillF (movF a (-(b % 32)) 0) 32)) true := by
  constructor
  intro w
  have em : b.tmod 32 = b % 32 := Int.tmod_eq_emod_of_nonneg b0
  go_enter Try.func9, Try.ntmps9
  go_wp2_with (go_at_call 26; refine (moved_any _ _ _ _ a0 a1 (by omega) (by omega) (by omega) (by omega)).mono ?_; rintro e w' ⟨rfl, hb⟩)
  go_ret2; exact ⟨rfl, hb⟩
theorem rdo_30 (a b : Int) (a0 : 0 ≤ a) (a1 : a < 4294967296) (b0 : 0 ≤ b) (b1 : b < 4294967296) : RDoTo 30 a b (wordN (fillF (movF a (-(b % 32)) 0) 32)) true := by
  constructor
  intro w
  have em : b.tmod 32 = b % 32 := Int.tmod_eq_emod_of_nonneg b0
  go_enter Try.func9, Try.ntmps9
  go_wp2_with (go_at_call 26; refine (moved_any _ _ _ _ a0 a1 (by omega) (by omega) (by omega) (by omega)).mono ?_; rintro e w' ⟨rfl, hb⟩)
  go_ret2; exact ⟨rfl, hb⟩
theorem rdo_7 (a b : Int) (a0 : 0 ≤ a) (a1 : a < 4294967296) (b0 : 0 ≤ b) (b1 : b < 4294967296) : RDoTo 7 a b (wordN (fillF (movF a (b % 32) 0) 32)) true := by
  constructor
  intro w
  have em : b.tmod 32 = b % 32 := Int.tmod_eq_emod_of_nonneg b0
  go_enter Try.func9, Try.ntmps9
  go_wp2_with (go_at_call 26; refine (moved_any _ _ _ _ a0 a1 (by omega) (by omega) (by omega) (by omega)).mono ?_; rintro e w' ⟨rfl, hb⟩)
  go_ret2; exact ⟨rfl, hb⟩
theorem rdo_31 (a b : Int) (a0 : 0 ≤ a) (a1 : a < 4294967296) (b0 : 0 ≤ b) (b1 : b < 4294967296) : RDoTo 31 a b (wordN (fillF (movF a (b % 32) 0) 32)) true := by
  constructor
  intro w
  have em : b.tmod 32 = b % 32 := Int.tmod_eq_emod_of_nonneg b0
  go_enter Try.func9, Try.ntmps9
  go_wp2_with (go_at_call 26; refine (moved_any _ _ _ _ a0 a1 (by omega) (by omega) (by omega) (by omega)).mono ?_; rintro e w' ⟨rfl, hb⟩)
  go_ret2; exact ⟨rfl, hb⟩
theorem rdo_8 (a b : Int) (a0 : 0 ≤ a) (a1 : a < 4294967296) (b0 : 0 ≤ b) (b1 : b < 4294967296) : RDoTo 8 a b (wordN (fillF (movF a (b % 32) (bitZ a 31)) 32)) true := by
  constructor
  intro w
  have em : b.tmod 32 = b % 32 := Int.tmod_eq_emod_of_nonneg b0
  obtain ⟨p0, p1⟩ := bit_bounds a 31
  have e31 : bitZ a (Int.toNat 31) = bitZ a 31 := rfl
  go_enter Try.func9, Try.ntmps9
  go_wp2_with (first | (go_at_call 27; refine (bit_any _ _ _ a0 a1 (by omega)).mono ?_; rintro e w1 ⟨rfl, rfl⟩; rw [e31]) | (go_at_call 26; refine (moved_any _ _ _ _ a0 a1 (by omega) (by omega) (by omega) (by omega)).mono ?_; rintro e w' ⟨rfl, hb⟩))
  go_ret2; exact ⟨rfl, hb⟩
theorem rdo_32 (a b : Int) (a0 : 0 ≤ a) (a1 : a < 4294967296) (b0 : 0 ≤ b) (b1 : b < 4294967296) : RDoTo 32 a b (wordN (fillF (movF a (b % 32) (bitZ a 31)) 32)) true := by
  constructor
  intro w
  have em : b.tmod 32 = b % 32 := Int.tmod_eq_emod_of_nonneg b0
  obtain ⟨p0, p1⟩ := bit_bounds a 31
  have e31 : bitZ a (Int.toNat 31) = bitZ a 31 := rfl
  go_enter Try.func9, Try.ntmps9
  go_wp2_with (first | (go_at_call 27; refine (bit_any _ _ _ a0 a1 (by omega)).mono ?_; rintro e w1 ⟨rfl, rfl⟩; rw [e31]) | (go_at_call 26; refine (moved_any _ _ _ _ a0 a1 (by omega) (by omega) (by omega) (by omega)).mono ?_; rintro e w' ⟨rfl, hb⟩))
  go_ret2; exact ⟨rfl, hb⟩
theorem rdo_9 (a b : Int) (a0 : 0 ≤ a) (a1 : a < 4294967296) (b0 : 0 ≤ b) (b1 : b < 4294967296) : RDoTo 9 a b (if sgn a < sgn b then 1 else 0) true := by
  constructor
  intro w
  have em : b.tmod 32 = b % 32 := Int.tmod_eq_emod_of_nonneg b0
  by_cases c : sgn a < sgn b
  · rw [if_pos c]
    have c' : decide (sgn a < sgn b) = true := decide_eq_true c
    go_enter Try.func9, Try.ntmps9
    go_wp2_with (first | (go_at_call 29; refine (signed_any _ _ (by assumption) (by assumption)).mono ?_; rintro e w' ⟨rfl, rfl⟩) | (go_at_call 28; refine (rone_true _).mono ?_; rintro e w' ⟨rfl, rfl⟩) | (go_at_call 28; refine (rone_false _).mono ?_; rintro e w' ⟨rfl, rfl⟩))
    go_ret2; exact ⟨rfl, Below.refl _ _⟩
  · rw [if_neg c]
    have c' : decide (sgn a < sgn b) = false := decide_eq_false c
    go_enter Try.func9, Try.ntmps9
    go_wp2_with (first | (go_at_call 29; refine (signed_any _ _ (by assumption) (by assumption)).mono ?_; rintro e w' ⟨rfl, rfl⟩) | (go_at_call 28; refine (rone_true _).mono ?_; rintro e w' ⟨rfl, rfl⟩) | (go_at_call 28; refine (rone_false _).mono ?_; rintro e w' ⟨rfl, rfl⟩))
    go_ret2; exact ⟨rfl, Below.refl _ _⟩
theorem rdo_29 (a b : Int) (a0 : 0 ≤ a) (a1 : a < 4294967296) (b0 : 0 ≤ b) (b1 : b < 4294967296) : RDoTo 29 a b (if sgn a < sgn b then 1 else 0) true := by
  constructor
  intro w
  have em : b.tmod 32 = b % 32 := Int.tmod_eq_emod_of_nonneg b0
  by_cases c : sgn a < sgn b
  · rw [if_pos c]
    have c' : decide (sgn a < sgn b) = true := decide_eq_true c
    go_enter Try.func9, Try.ntmps9
    go_wp2_with (first | (go_at_call 29; refine (signed_any _ _ (by assumption) (by assumption)).mono ?_; rintro e w' ⟨rfl, rfl⟩) | (go_at_call 28; refine (rone_true _).mono ?_; rintro e w' ⟨rfl, rfl⟩) | (go_at_call 28; refine (rone_false _).mono ?_; rintro e w' ⟨rfl, rfl⟩))
    go_ret2; exact ⟨rfl, Below.refl _ _⟩
  · rw [if_neg c]
    have c' : decide (sgn a < sgn b) = false := decide_eq_false c
    go_enter Try.func9, Try.ntmps9
    go_wp2_with (first | (go_at_call 29; refine (signed_any _ _ (by assumption) (by assumption)).mono ?_; rintro e w' ⟨rfl, rfl⟩) | (go_at_call 28; refine (rone_true _).mono ?_; rintro e w' ⟨rfl, rfl⟩) | (go_at_call 28; refine (rone_false _).mono ?_; rintro e w' ⟨rfl, rfl⟩))
    go_ret2; exact ⟨rfl, Below.refl _ _⟩
theorem rdo_10 (a b : Int) (a0 : 0 ≤ a) (a1 : a < 4294967296) (b0 : 0 ≤ b) (b1 : b < 4294967296) : RDoTo 10 a b (if a < b then 1 else 0) true := by
  constructor
  intro w
  have em : b.tmod 32 = b % 32 := Int.tmod_eq_emod_of_nonneg b0
  by_cases c : a < b
  · rw [if_pos c]
    have c' : decide (a < b) = true := decide_eq_true c
    go_enter Try.func9, Try.ntmps9
    go_wp2_with (first | (go_at_call 29; refine (signed_any _ _ (by assumption) (by assumption)).mono ?_; rintro e w' ⟨rfl, rfl⟩) | (go_at_call 28; refine (rone_true _).mono ?_; rintro e w' ⟨rfl, rfl⟩) | (go_at_call 28; refine (rone_false _).mono ?_; rintro e w' ⟨rfl, rfl⟩))
    go_ret2; exact ⟨rfl, Below.refl _ _⟩
  · rw [if_neg c]
    have c' : decide (a < b) = false := decide_eq_false c
    go_enter Try.func9, Try.ntmps9
    go_wp2_with (first | (go_at_call 29; refine (signed_any _ _ (by assumption) (by assumption)).mono ?_; rintro e w' ⟨rfl, rfl⟩) | (go_at_call 28; refine (rone_true _).mono ?_; rintro e w' ⟨rfl, rfl⟩) | (go_at_call 28; refine (rone_false _).mono ?_; rintro e w' ⟨rfl, rfl⟩))
    go_ret2; exact ⟨rfl, Below.refl _ _⟩
theorem rdo_18 (a b : Int) (a0 : 0 ≤ a) (a1 : a < 4294967296) (b0 : 0 ≤ b) (b1 : b < 4294967296) : RDoTo 18 a b (if sgn b < sgn a then b else a) true := by
  constructor
  intro w
  have em : b.tmod 32 = b % 32 := Int.tmod_eq_emod_of_nonneg b0
  by_cases c : sgn b < sgn a
  · rw [if_pos c]
    have c' : decide (sgn b < sgn a) = true := decide_eq_true c
    go_enter Try.func9, Try.ntmps9
    go_wp2_with (first | (go_at_call 29; refine (signed_any _ _ (by assumption) (by assumption)).mono ?_; rintro e w' ⟨rfl, rfl⟩) | (go_at_call 28; refine (rone_true _).mono ?_; rintro e w' ⟨rfl, rfl⟩) | (go_at_call 28; refine (rone_false _).mono ?_; rintro e w' ⟨rfl, rfl⟩))
    go_ret2; exact ⟨rfl, Below.refl _ _⟩
  · rw [if_neg c]
    have c' : decide (sgn b < sgn a) = false := decide_eq_false c
    go_enter Try.func9, Try.ntmps9
    go_wp2_with (first | (go_at_call 29; refine (signed_any _ _ (by assumption) (by assumption)).mono ?_; rintro e w' ⟨rfl, rfl⟩) | (go_at_call 28; refine (rone_true _).mono ?_; rintro e w' ⟨rfl, rfl⟩) | (go_at_call 28; refine (rone_false _).mono ?_; rintro e w' ⟨rfl, rfl⟩))
    go_ret2; exact ⟨rfl, Below.refl _ _⟩
theorem rdo_19 (a b : Int) (a0 : 0 ≤ a) (a1 : a < 4294967296) (b0 : 0 ≤ b) (b1 : b < 4294967296) : RDoTo 19 a b (if sgn a < sgn b then b else a) true := by
  constructor
  intro w
  have em : b.tmod 32 = b % 32 := Int.tmod_eq_emod_of_nonneg b0
  by_cases c : sgn a < sgn b
  · rw [if_pos c]
    have c' : decide (sgn a < sgn b) = true := decide_eq_true c
    go_enter Try.func9, Try.ntmps9
    go_wp2_with (first | (go_at_call 29; refine (signed_any _ _ (by assumption) (by assumption)).mono ?_; rintro e w' ⟨rfl, rfl⟩) | (go_at_call 28; refine (rone_true _).mono ?_; rintro e w' ⟨rfl, rfl⟩) | (go_at_call 28; refine (rone_false _).mono ?_; rintro e w' ⟨rfl, rfl⟩))
    go_ret2; exact ⟨rfl, Below.refl _ _⟩
  · rw [if_neg c]
    have c' : decide (sgn a < sgn b) = false := decide_eq_false c
    go_enter Try.func9, Try.ntmps9
    go_wp2_with (first | (go_at_call 29; refine (signed_any _ _ (by assumption) (by assumption)).mono ?_; rintro e w' ⟨rfl, rfl⟩) | (go_at_call 28; refine (rone_true _).mono ?_; rintro e w' ⟨rfl, rfl⟩) | (go_at_call 28; refine (rone_false _).mono ?_; rintro e w' ⟨rfl, rfl⟩))
    go_ret2; exact ⟨rfl, Below.refl _ _⟩
theorem rdo_20 (a b : Int) (a0 : 0 ≤ a) (a1 : a < 4294967296) (b0 : 0 ≤ b) (b1 : b < 4294967296) : RDoTo 20 a b (wordN (fillF (fun i => bitZ a ((i + (b % 32).toNat) % 32)) 32)) true := by
  constructor
  intro w
  have em : b.tmod 32 = b % 32 := Int.tmod_eq_emod_of_nonneg b0
  go_enter Try.func9, Try.ntmps9
  go_wp2_with (go_at_call 30; refine (turned_int _ _ _ a0 a1 (by omega) (by omega)).mono ?_; rintro e w' ⟨rfl, hb⟩)
  go_ret2; exact ⟨rfl, hb⟩
theorem rdo_21 (a b : Int) (j : Nat) (a0 : 0 ≤ a) (a1 : a < 4294967296) (b0 : 0 ≤ b) (b1 : b < 4294967296) (h : SizeIs a j) : RDoTo 21 a b (32 - j) true := by
  constructor
  intro w
  have em : b.tmod 32 = b % 32 := Int.tmod_eq_emod_of_nonneg b0
  have hj := h.1
  have H := Lib.hid h
  clear h
  go_enter Try.func9, Try.ntmps9
  go_wp2_with (go_at_call 17; refine (rclz_any _ _ a0 a1).mono ?_; rintro e w' ⟨⟨i, hi, rfl⟩, rfl⟩; obtain rfl := size_uniq a0 hi H.out)
  go_ret2; exact ⟨rfl, Below.refl _ _⟩
theorem rdo_22 (a b : Int) (P : Nat) (a0 : 0 ≤ a) (a1 : a < 4294967296) (b0 : 0 ≤ b) (b1 : b < 4294967296) (h : popN a.toNat = P) (hp : P < 4294967296) : RDoTo 22 a b P true := by
  constructor
  intro w
  have em : b.tmod 32 = b % 32 := Int.tmod_eq_emod_of_nonneg b0
  go_enter Try.func9, Try.ntmps9
  go_wp2_with (go_at_call 18; refine (rpop_int _ _ a0 a1).mono ?_; rintro e w' ⟨rfl, rfl⟩)
  go_ret2; exact ⟨rfl, Below.refl _ _⟩
theorem rdo_23 (a b : Int) (a0 : 0 ≤ a) (a1 : a < 4294967296) (b0 : 0 ≤ b) (b1 : b < 4294967296) : RDoTo 23 a b (revZ a) true := by
  constructor
  intro w
  have em : b.tmod 32 = b % 32 := Int.tmod_eq_emod_of_nonneg b0
  go_enter Try.func9, Try.ntmps9
  go_wp2_with (go_at_call 19; refine (rrev_any _ _ a0 a1).mono ?_; rintro e w' ⟨rfl, rfl⟩)
  go_ret2; exact ⟨rfl, Below.refl _ _⟩
theorem rdo_no (op a b : Int) (b0 : 0 ≤ b) (b1 : b < 4294967296) (h1 : (op == 1) = false) (h25 : (op == 25) = false) (h2 : (op == 2) = false) (h9 : (op == 9) = false) (h29 : (op == 29) = false) (h10 : (op == 10) = false) (h18 : (op == 18) = false) (h19 : (op == 19) = false) (h33 : (op == 33) = false) (h21 : (op == 21) = false) (h22 : (op == 22) = false) (h23 : (op == 23) = false) (h3 : (op == 3) = false) (h26 : (op == 26) = false) (h4 : (op == 4) = false) (h27 : (op == 27) = false) (h5 : (op == 5) = false) (h28 : (op == 28) = false) (h6 : (op == 6) = false) (h30 : (op == 30) = false) (h7 : (op == 7) = false) (h31 : (op == 31) = false) (h8 : (op == 8) = false) (h32 : (op == 32) = false) (h20 : (op == 20) = false) : RDoTo op a b 0 false := by
  constructor
  intro w
  have em : b.tmod 32 = b % 32 := Int.tmod_eq_emod_of_nonneg b0
  go_enter Try.func9, Try.ntmps9
  go_wp2
  go_ret2; exact ⟨rfl, Below.refl _ _⟩
theorem rtaken_43 (a b : Int) (a0 : 0 ≤ a) (a1 : a < 4294967296) (b0 : 0 ≤ b) (b1 : b < 4294967296) : RTakenIs 43 a b (a == b) := by
  constructor; intro w; go_enter Try.func11, Try.ntmps11; go_wp2_with (go_at_call 29; refine (signed_any _ _ (by assumption) (by assumption)).mono ?_; rintro e w' ⟨rfl, rfl⟩); go_ret; exact ⟨rfl, rfl⟩
theorem rtaken_44 (a b : Int) (a0 : 0 ≤ a) (a1 : a < 4294967296) (b0 : 0 ≤ b) (b1 : b < 4294967296) : RTakenIs 44 a b (!(a == b)) := by
  constructor; intro w; go_enter Try.func11, Try.ntmps11; go_wp2_with (go_at_call 29; refine (signed_any _ _ (by assumption) (by assumption)).mono ?_; rintro e w' ⟨rfl, rfl⟩); go_ret; exact ⟨rfl, rfl⟩
theorem rtaken_45 (a b : Int) (a0 : 0 ≤ a) (a1 : a < 4294967296) (b0 : 0 ≤ b) (b1 : b < 4294967296) : RTakenIs 45 a b (decide (sgn a < sgn b)) := by
  constructor; intro w; go_enter Try.func11, Try.ntmps11; go_wp2_with (go_at_call 29; refine (signed_any _ _ (by assumption) (by assumption)).mono ?_; rintro e w' ⟨rfl, rfl⟩); go_ret; exact ⟨rfl, rfl⟩
theorem rtaken_46 (a b : Int) (a0 : 0 ≤ a) (a1 : a < 4294967296) (b0 : 0 ≤ b) (b1 : b < 4294967296) : RTakenIs 46 a b (decide (sgn b ≤ sgn a)) := by
  constructor; intro w; go_enter Try.func11, Try.ntmps11; go_wp2_with (go_at_call 29; refine (signed_any _ _ (by assumption) (by assumption)).mono ?_; rintro e w' ⟨rfl, rfl⟩); go_ret; exact ⟨rfl, rfl⟩
theorem rtaken_47 (a b : Int) (a0 : 0 ≤ a) (a1 : a < 4294967296) (b0 : 0 ≤ b) (b1 : b < 4294967296) : RTakenIs 47 a b (decide (a < b)) := by
  constructor; intro w; go_enter Try.func11, Try.ntmps11; go_wp2_with (go_at_call 29; refine (signed_any _ _ (by assumption) (by assumption)).mono ?_; rintro e w' ⟨rfl, rfl⟩); go_ret; exact ⟨rfl, rfl⟩
theorem rtaken_48 (a b : Int) (a0 : 0 ≤ a) (a1 : a < 4294967296) (b0 : 0 ≤ b) (b1 : b < 4294967296) : RTakenIs 48 a b (decide (b ≤ a)) := by
  constructor; intro w; go_enter Try.func11, Try.ntmps11; go_wp2_with (go_at_call 29; refine (signed_any _ _ (by assumption) (by assumption)).mono ?_; rintro e w' ⟨rfl, rfl⟩); go_ret; exact ⟨rfl, rfl⟩
theorem rtaken_no (op a b : Int) (h43 : (op == 43) = false) (h44 : (op == 44) = false) (h45 : (op == 45) = false) (h46 : (op == 46) = false) (h47 : (op == 47) = false) (h48 : (op == 48) = false) : RTakenIs op a b false := by
  constructor; intro w; go_enter Try.func11, Try.ntmps11; go_wp2_with (go_at_call 29; refine (signed_any _ _ (by assumption) (by assumption)).mono ?_; rintro e w' ⟨rfl, rfl⟩); go_ret; exact ⟨rfl, rfl⟩
end Go.Proofs.Yteepcoigihbdoaa.My
