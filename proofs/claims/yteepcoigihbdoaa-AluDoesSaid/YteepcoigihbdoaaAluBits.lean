/- The law of single words: Clz, Pop, Rev, Cmov and the reference's. -/
import Derived.Test.YteepcoigihbdoaaAluAwake
import Derived.Laws.BitsAllLaws
set_option linter.unusedVariables false
namespace Go.Proofs.Yteepcoigihbdoaa.My
open Go.RowKit

def bitZ (n : Int) (k : Nat) : Int := n / 2 ^ k % 2
theorem bit_any (n k : Int) (w : World) (h0 : 0 ≤ n) (h1 : n < 4294967296) (hk : k ≤ 9223372036854775807) : Calls Try.prog 27 #[.int .u32 n, .int .i64 k] w fun e w' => e = .returned (.int .u32 (bitZ n k.toNat)) ∧ w = w' := by
  go_enter Try.func27, Try.ntmps27
  go_wp2
  go_loop [0, 5] (fun x i => ∃ (j : Nat) (X : Int), j ≤ k.toNat ∧ i = .int .i64 j ∧ x = .int .u32 X ∧ 0 ≤ X ∧ X < 4294967296 ∧ Hid (X = n / 2 ^ j)) (fun _ i => k.toNat - (intOf i).toNat)
  case atStart => exact ⟨0, n, Nat.zero_le _, rfl, rfl, h0, h1, by show n = n / 2 ^ 0; simp⟩
  case round =>
    obtain ⟨j, X, hj, rfl, rfl, x0, x1, HX⟩ := hrel
    by_cases hlt : (j : Int) < k
    · go_wp2
      go_round
      case rel => exact ⟨j + 1, X / 2, by omega, by go_num, rfl, by omega, by omega, by show X / 2 = n / 2 ^ (j + 1); rw [HX.out, pow_step]⟩
      case measure => simp [intOf]; omega
    · have hjk : j = k.toNat := by omega
      have HJ := Lib.hid hjk
      clear hjk
      go_wp2
      go_ret
      exact ⟨ret_int (by rw [← HJ.out, HX.out]; rfl), rfl⟩
theorem bit_bounds (n : Int) (k : Nat) : 0 ≤ bitZ n k ∧ bitZ n k ≤ 1 := by unfold bitZ; omega

/-- How many bits are one. -/
def popN (n : Nat) : Nat := if h : n = 0 then 0 else n % 2 + popN (n / 2)
termination_by n
decreasing_by omega
theorem popN_zero : popN 0 = 0 := by unfold popN; simp
theorem popN_step (n : Nat) : popN n = n % 2 + popN (n / 2) := by
  by_cases h : n = 0
  · subst h; simp [popN_zero]
  · rw [popN]; simp [h]
theorem popN_less {n : Nat} (h : n ≠ 0) : popN (n &&& (n - 1)) + 1 = popN n := by
  induction n using Nat.strongRecOn with
  | ind n ih =>
    have e1 : (n &&& (n - 1)) / 2 = n / 2 &&& (n - 1) / 2 := Nat.and_div_two
    have f1 := Nat.and_mod_two_eq_one (a := n) (b := n - 1)
    have e2 : (n &&& (n - 1)) % 2 = 0 := by omega
    rw [popN_step (n &&& (n - 1)), e1, e2, popN_step n]
    by_cases c : n % 2 = 1
    · have e3 : (n - 1) / 2 = n / 2 := by omega
      rw [e3, Nat.and_self]
      omega
    · have e3 : (n - 1) / 2 = n / 2 - 1 := by omega
      rw [e3]
      have := ih (n / 2) (by omega) (by omega)
      omega
theorem popN_le (n : Nat) : popN n ≤ n := by
  induction n using Nat.strongRecOn with
  | ind n ih =>
    by_cases h : n = 0
    · subst h; simp [popN_zero]
    · rw [popN_step]
      have := ih (n / 2) (by omega)
      omega
theorem and_nat {x : Nat} (h : x < 4294967296) (h0 : x ≠ 0) : bits .and .u32 (x : Int) ((x : Int) - 1) = ((x &&& (x - 1) : Nat) : Int) := by
  rw [show ((x : Int) - 1) = ((x - 1 : Nat) : Int) by omega]
  exact u32_and_nat x (x - 1) h (by omega)
theorem pop_any (a : Nat) (w : World) (a1 : a < 4294967296) : Calls Try.prog 14 #[.int .u32 a] w fun e w' => e = .returned (.int .i64 (popN a)) ∧ w = w' := by
  go_enter Try.func14, Try.ntmps14
  go_wp2
  go_loop [0, 3] (fun x n => ∃ (c X : Nat), X < 4294967296 ∧ c < 4294967296 ∧ n = .int .i64 c ∧ x = .int .u32 X ∧ Hid (c + popN X = popN a)) (fun x _ => (intOf x).toNat)
  case atStart => exact ⟨0, a, a1, by omega, rfl, rfl, by show 0 + popN a = popN a; omega⟩
  case round =>
    obtain ⟨c, X, x1, c1, rfl, rfl, HX⟩ := hrel
    by_cases hz : X = 0
    · subst hz
      go_wp2
      go_ret
      exact ⟨ret_int (by have := HX.out; rw [popN_zero] at this; omega), rfl⟩
    · have z : ((X : Int) == 0) = false := beq_eq_false_iff_ne.2 (by omega)
      have e := and_nat x1 hz
      have ew : ((X : Int) - 1) % 4294967296 = (X : Int) - 1 := by omega
      have hx : X &&& (X - 1) ≤ X - 1 := Nat.and_le_right
      have hc : c + 1 < 4294967296 := by
        have := HX.out
        have h2 := popN_less hz
        have h3 := popN_le a
        omega
      have HZ := Lib.hid hz
      clear hz
      go_wp2
      go_round
      case rel => exact ⟨c + 1, X &&& (X - 1), by omega, by omega, by go_num, rfl, by show c + 1 + popN (X &&& (X - 1)) = popN a; have := HX.out; have h2 := popN_less HZ.out; omega⟩
      case measure => simp [intOf]; have := HZ.out; omega
theorem bit_nat (a k : Nat) : bitZ (a : Int) k = ((a / 2 ^ k % 2 : Nat) : Int) := by unfold bitZ; norm_cast
theorem rpop_any (a : Int) (n : Nat) (w : World) (a0 : 0 ≤ a) (a1 : a < 4294967296) (HN : Hid (a = n)) : Calls Try.prog 18 #[.int .u32 a] w fun e w' => e = .returned (.int .i64 (popN n)) ∧ w = w' := by
  go_enter Try.func18, Try.ntmps18
  go_wp2
  go_loop [3, 4] (fun cn i => ∃ (c j : Nat), j ≤ 32 ∧ c ≤ j ∧ cn = .int .i64 c ∧ i = .int .i64 j ∧ Hid (c + popN (n / 2 ^ j) = popN n)) (fun _ i => 32 - (intOf i).toNat)
  case atStart => exact ⟨0, 0, by omega, by omega, rfl, rfl, by show 0 + popN (n / 2 ^ 0) = popN n; simp⟩
  case round =>
    obtain ⟨c, j, hj, hc, rfl, rfl, HX⟩ := hrel
    by_cases hlt : j < 32
    · obtain ⟨b0, b1⟩ := bit_bounds a j
      obtain ⟨B, hB⟩ : ∃ B : Nat, bitZ a j = (B : Int) := ⟨n / 2 ^ j % 2, (congrArg (bitZ · j) HN.out).trans (bit_nat n j)⟩
      have HBB := Lib.hid ((bit_nat n j).symm.trans ((congrArg (bitZ · j) HN.out).symm.trans hB))
      rw [hB] at b0 b1
      go_wp2_with (go_at_call 27; refine (bit_any _ _ _ a0 a1 (by omega)).mono ?_; rintro e w1 ⟨rfl, rfl⟩)
      go_round
      case rel =>
        refine ⟨c + B, j + 1, by omega, by omega, by go_num, by go_num, ?_⟩
        show c + B + popN (n / 2 ^ (j + 1)) = popN n
        have h := HX.out
        have e2 : n / 2 ^ j / 2 = n / 2 ^ (j + 1) := by rw [Nat.div_div_eq_div_mul, Nat.pow_succ]
        rw [popN_step, e2] at h
        have h2 := HBB.out
        omega
      case measure => simp [intOf]; omega
    · obtain rfl : j = 32 := by omega
      have h := HX.out
      rw [Nat.div_eq_of_lt (show n < 2 ^ 32 by have := HN.out; omega), popN_zero] at h
      have HH := Lib.hid h
      clear h
      go_wp2
      go_ret
      exact ⟨ret_int (by have := HH.out; omega), rfl⟩
theorem size_uniq {a : Int} (a0 : 0 ≤ a) {i j : Nat} (hi : SizeIs a i) (hj : SizeIs a j) : i = j := by
  have key : ∀ i j : Nat, SizeIs a i → SizeIs a j → ¬ i < j := by
    intro i j hi hj h
    rcases hj.2.2 with c | c
    · omega
    · apply c
      obtain ⟨d, hd⟩ : ∃ d, j - 1 = i + d := ⟨j - 1 - i, by omega⟩
      rw [hd, Int.pow_add, ← Int.ediv_ediv_of_nonneg (Int.pow_nonneg (by decide)), hi.2.1, Int.zero_ediv]
  have := key i j hi hj
  have := key j i hj hi
  omega
theorem rclz_any (a : Int) (w : World) (a0 : 0 ≤ a) (a1 : a < 4294967296) : Calls Try.prog 17 #[.int .u32 a] w fun e w' => (∃ j : Nat, SizeIs a j ∧ e = .returned (.int .i64 (32 - j))) ∧ w = w' := by
  go_enter Try.func17, Try.ntmps17
  go_wp2
  go_loop [3] (fun n => ∃ m : Nat, m ≤ 32 ∧ n = .int .i64 m ∧ Hid (a / 2 ^ (32 - m) = 0)) (fun n => 32 - (intOf n).toNat)
  case atStart => exact ⟨0, by omega, rfl, pow_32 a0 a1 (by omega)⟩
  case round =>
    obtain ⟨m, hm, rfl, HX⟩ := hrel
    by_cases hz : m = 32
    · subst hz
      go_wp2_with (go_at_call 27; refine (bit_any _ _ _ a0 a1 (by omega)).mono ?_; rintro e w1 ⟨rfl, rfl⟩)
      go_ret
      exact ⟨⟨0, ⟨by omega, HX.out, Or.inl rfl⟩, rfl⟩, rfl⟩
    · have hlt : m < 32 := by omega
      have h2 := pow_step a (31 - m)
      have h3 := HX.out
      rw [show 32 - m = 31 - m + 1 by omega] at h3
      have h4 := pow_nn a0 (31 - m)
      by_cases hb : a / 2 ^ (31 - m) = 0
      · have e1 : bitZ a (31 - m) = 0 := by unfold bitZ; rw [hb]; rfl
        have HB := Lib.hid hb
        clear hb h2 h3 h4
        go_wp2_with (go_at_call 27; refine (bit_any _ _ _ a0 a1 (by omega)).mono ?_; rintro e w1 ⟨rfl, rfl⟩)
        go_round
        case rel => exact ⟨m + 1, by omega, by go_num, by have := HB.out; rw [show 31 - m = 32 - (m + 1) by omega] at this; exact this⟩
        case measure => simp [intOf]; omega
      · have e1 : bitZ a (31 - m) = 1 := by unfold bitZ; omega
        have HB := Lib.hid hb
        have H3 := Lib.hid h3
        clear hb h2 h3 h4
        go_wp2_with (go_at_call 27; refine (bit_any _ _ _ a0 a1 (by omega)).mono ?_; rintro e w1 ⟨rfl, rfl⟩)
        go_ret
        exact ⟨⟨32 - m, ⟨by omega, HX.out, Or.inr (by rw [show 32 - m - 1 = 31 - m by omega]; exact HB.out)⟩, ret_int (by omega)⟩, rfl⟩
theorem cmov_any (o a b : Int) (w : World) : Calls Try.prog 20 #[.int .u32 o, .int .u32 a, .int .u32 b] w fun e w' => e = .returned (.int .u32 (if b = 0 then o else a)) ∧ w = w' := by
  by_cases h : b = 0
  · subst h
    rw [if_pos rfl]
    go_enter Try.func20, Try.ntmps20
    go_wp2
    go_ret
    exact ⟨rfl, rfl⟩
  · rw [if_neg h]
    have z : (b == 0) = false := beq_eq_false_iff_ne.2 h
    go_enter Try.func20, Try.ntmps20
    go_wp2
    go_ret
    exact ⟨rfl, rfl⟩
theorem rcmov_any (o a b : Int) (w : World) : Calls Try.prog 21 #[.int .u32 o, .int .u32 a, .int .u32 b] w fun e w' => e = .returned (.int .u32 (if b = 0 then o else a)) ∧ w = w' := by
  by_cases h : b = 0
  · subst h
    rw [if_pos rfl]
    go_enter Try.func21, Try.ntmps21
    go_wp2
    go_ret
    exact ⟨rfl, rfl⟩
  · rw [if_neg h]
    have z : (b == 0) = false := beq_eq_false_iff_ne.2 h
    go_enter Try.func21, Try.ntmps21
    go_wp2
    go_ret
    exact ⟨rfl, rfl⟩
theorem and_mask2 {n : Nat} : n &&& 16711680 = n / 65536 % 256 * 65536 := by
  have a1 : (n &&& 16711680) / 2 ^ 16 = n / 2 ^ 16 &&& 16711680 / 2 ^ 16 := Nat.and_div_two_pow
  have a2 : (n &&& 16711680) % 2 ^ 16 = n % 2 ^ 16 &&& 16711680 % 2 ^ 16 := Nat.and_mod_two_pow
  have a3 := Nat.div_add_mod (n &&& 16711680) (2 ^ 16)
  have a4 := Nat.and_two_pow_sub_one_eq_mod (n / 2 ^ 16) 8
  rw [a1, a2, show 16711680 / 2 ^ 16 = 2 ^ 8 - 1 from rfl, show 16711680 % 2 ^ 16 = 0 from rfl, Nat.and_zero, a4] at a3
  omega
theorem and_mask1 {n : Nat} : n &&& 65280 = n / 256 % 256 * 256 := by
  have a1 : (n &&& 65280) / 2 ^ 8 = n / 2 ^ 8 &&& 65280 / 2 ^ 8 := Nat.and_div_two_pow
  have a2 : (n &&& 65280) % 2 ^ 8 = n % 2 ^ 8 &&& 65280 % 2 ^ 8 := Nat.and_mod_two_pow
  have a3 := Nat.div_add_mod (n &&& 65280) (2 ^ 8)
  have a4 := Nat.and_two_pow_sub_one_eq_mod (n / 2 ^ 8) 8
  rw [a1, a2, show 65280 / 2 ^ 8 = 2 ^ 8 - 1 from rfl, show 65280 % 2 ^ 8 = 0 from rfl, Nat.and_zero, a4] at a3
  omega
theorem or_32 {x y : Int} (i : Nat) (hi : i ≤ 32) (hx : 0 ≤ x) (he : x % 2 ^ i = 0) (hx1 : x < 4294967296) (h0 : 0 ≤ y) (h1 : y < 2 ^ i) (h2 : y < 4294967296) : bits .or .u32 x y = x + y :=
  bits_join .u32 32 (by decide) (fun n a b => by rw [IntKind.wrap_u32]; omega) i x y hx he (by simpa using hx1) h0 h1 (by simpa using h2)
def revZ (a : Int) : Int := a % 256 * 16777216 + a / 256 % 256 * 65536 + a / 65536 % 256 * 256 + a / 16777216
theorem rev_any (a : Int) (w : World) (a0 : 0 ≤ a) (a1 : a < 4294967296) : Calls Try.prog 15 #[.int .u32 a] w fun e w' => e = .returned (.int .u32 (revZ a)) ∧ w = w' := by
  have m2 : bits .and .u32 (a * 256 % 4294967296) 16711680 = a / 256 % 256 * 65536 := by
    rw [u32_and _ 16711680 (by omega) (by omega) (by decide) (by decide), show (16711680 : Int).toNat = 16711680 from rfl, and_mask2]
    omega
  have m1 : bits .and .u32 (a / 256) 65280 = a / 65536 % 256 * 256 := by
    rw [u32_and _ 65280 (by omega) (by omega) (by decide) (by decide), show (65280 : Int).toNat = 65280 from rfl, and_mask1]
    omega
  have h0 : a * 16777216 % 4294967296 = a % 256 * 16777216 := by omega
  have o1 : bits .or .u32 (a % 256 * 16777216) (a / 256 % 256 * 65536) = a % 256 * 16777216 + a / 256 % 256 * 65536 :=
    or_32 24 (by decide) (by omega) (by omega) (by omega) (by omega) (by omega) (by omega)
  have o2 : bits .or .u32 (a % 256 * 16777216 + a / 256 % 256 * 65536) (a / 65536 % 256 * 256) = a % 256 * 16777216 + a / 256 % 256 * 65536 + a / 65536 % 256 * 256 :=
    or_32 16 (by decide) (by omega) (by omega) (by omega) (by omega) (by omega) (by omega)
  have o3 : bits .or .u32 (a % 256 * 16777216 + a / 256 % 256 * 65536 + a / 65536 % 256 * 256) (a / 16777216) = revZ a :=
    or_32 8 (by decide) (by omega) (by omega) (by omega) (by omega) (by omega) (by omega)
  have M1 := Lib.hid m1
  have M2 := Lib.hid m2
  have H0 := Lib.hid h0
  have O1 := Lib.hid o1
  have O2 := Lib.hid o2
  have O3 := Lib.hid o3
  clear m1 m2 h0 o1 o2 o3
  go_enter Try.func15, Try.ntmps15
  go_wp2
  go_ret
  exact ⟨ret_int (by rw [M1.out, M2.out, H0.out, O1.out, O2.out, O3.out]), rfl⟩
def revS (a : Int) : Nat → Int
  | 0 => 0
  | j + 1 => 256 * revS a j + a / 256 ^ j % 256
theorem revS_bounds (a : Int) : ∀ j, 0 ≤ revS a j ∧ revS a j < 256 ^ j
  | 0 => by simp [revS]
  | j + 1 => by
    obtain ⟨h0, h1⟩ := revS_bounds a j
    rw [revS, Int.pow_succ]
    omega
theorem rrev_any (a : Int) (w : World) (a0 : 0 ≤ a) (a1 : a < 4294967296) : Calls Try.prog 19 #[.int .u32 a] w fun e w' => e = .returned (.int .u32 (revZ a)) ∧ w = w' := by
  go_enter Try.func19, Try.ntmps19
  go_wp2
  go_loop [0, 3, 4] (fun x o i => ∃ (j : Nat) (X O : Int), j ≤ 4 ∧ i = .int .i64 j ∧ x = .int .u32 X ∧ o = .int .u32 O ∧ 0 ≤ X ∧ X < 4294967296 ∧ Hid (X = a / 256 ^ j) ∧ Hid (O = revS a j)) (fun _ _ i => 4 - (intOf i).toNat)
  case atStart => exact ⟨0, a, 0, by omega, rfl, rfl, rfl, a0, a1, by show a = a / 256 ^ 0; simp, by show (0 : Int) = revS a 0; rfl⟩
  case round =>
    obtain ⟨j, X, O, hj, rfl, rfl, rfl, x0, x1, HX, HO⟩ := hrel
    by_cases hlt : j < 4
    · obtain ⟨p0, p1⟩ := revS_bounds a j
      rw [← HO.out] at p0 p1
      have p2 : O < 16777216 := by
        have h4 : j = 0 ∨ j = 1 ∨ j = 2 ∨ j = 3 := by omega
        rcases h4 with rfl | rfl | rfl | rfl <;> omega
      clear p1
      go_wp2
      go_round
      case rel =>
        refine ⟨j + 1, X / 256, 256 * O + X % 256, by omega, by go_num, rfl, by go_num, by omega, by omega, ?_, ?_⟩
        · show X / 256 = a / 256 ^ (j + 1)
          rw [HX.out, Int.pow_succ, Int.ediv_ediv_of_nonneg (Int.pow_nonneg (by decide))]
        · show 256 * O + X % 256 = revS a (j + 1)
          rw [HX.out, HO.out]
          rfl
      case measure => simp [intOf]; omega
    · obtain rfl : j = 4 := by omega
      go_wp2
      go_ret
      refine ⟨ret_int ?_, rfl⟩
      rw [HO.out]
      simp only [revS, revZ]
      omega
theorem pop_int (a : Int) (w : World) (a0 : 0 ≤ a) (a1 : a < 4294967296) : Calls Try.prog 14 #[.int .u32 a] w fun e w' => e = .returned (.int .i64 (popN a.toNat)) ∧ w = w' := by
  obtain ⟨n, rfl⟩ := Int.eq_ofNat_of_zero_le a0
  rw [Int.toNat_natCast]
  exact pop_any n w (by omega)
theorem rpop_int (a : Int) (w : World) (a0 : 0 ≤ a) (a1 : a < 4294967296) : Calls Try.prog 18 #[.int .u32 a] w fun e w' => e = .returned (.int .i64 (popN a.toNat)) ∧ w = w' :=
  rpop_any a a.toNat w a0 a1 (Lib.hid (by omega))
set_option maxHeartbeats 1000000 in
theorem bits_int (x a b : Int) (w : World) (x0 : 0 ≤ x) (x1 : x < 4294967296) : Calls Try.prog 7 #[.int .u32 x, .int .u32 a, .int .u32 b] w fun e w' => e = .returned (.bool true) ∧ Below w.heap.size w w' := by
  go_enter Try.func7, Try.ntmps7
  go_wp2_with (first | (go_at_call 16; refine (clz_any _ _ x0 x1).mono ?_; rintro e w1 ⟨⟨j1, J1, rfl⟩, rfl⟩; have K1 := Lib.hid J1; clear J1) | (go_at_call 17; refine (rclz_any _ _ x0 x1).mono ?_; rintro e w1 ⟨⟨j2, J2, rfl⟩, rfl⟩; have JE := size_uniq x0 K1.out J2; subst JE) | (go_at_call 14; refine (pop_int _ _ x0 x1).mono ?_; rintro e w1 ⟨rfl, rfl⟩) | (go_at_call 18; refine (rpop_int _ _ x0 x1).mono ?_; rintro e w1 ⟨rfl, rfl⟩) | (go_at_call 15; refine (rev_any _ _ x0 x1).mono ?_; rintro e w1 ⟨rfl, rfl⟩) | (go_at_call 19; refine (rrev_any _ _ x0 x1).mono ?_; rintro e w1 ⟨rfl, rfl⟩) | (go_at_call 20; refine (cmov_any _ _ _ _).mono ?_; rintro e w1 ⟨rfl, rfl⟩) | (go_at_call 21; refine (rcmov_any _ _ _ _).mono ?_; rintro e w1 ⟨rfl, rfl⟩) | (go_at_call 12; refine (awake_any _).mono ?_; rintro e w1 ⟨rfl, rfl⟩))
  all_goals (go_ret; exact ⟨rfl, Below.refl _ _⟩)
end Go.Proofs.Yteepcoigihbdoaa.My
