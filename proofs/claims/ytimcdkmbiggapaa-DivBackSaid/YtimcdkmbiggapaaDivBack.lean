/- The law of division: quotient times divisor, and the remainder, are the number; the remainder is below the divisor. -/
import Derived.Test.YtimcdkmbiggapaaDivRef
namespace Go.Proofs.Ytimcdkmbiggapaa.My
open Go.RowKit

set_option maxHeartbeats 4000000 in
theorem back_zero (a b : Int) (w : World) (a0 : 0 ≤ a) (a1 : a < 4294967296) (b0 : 0 ≤ b) (b1 : b < 4294967296) (hb : b = 0) : Calls Try.prog 6 #[.int .u32 a, .int .u32 b] w fun e w' => e = .returned (.bool true) ∧ Below w.heap.size w w' := by
  have HB := startB w
  have z1 : doZ 15 a b = (4294967295, true) := by rw [doZ_15, if_pos hb]
  have z2 : doZ 17 a b = (a, true) := by rw [doZ_17, if_pos hb]
  have z3 : doZ 14 a b = (4294967295, true) := by rw [doZ_14, if_pos hb]
  have z4 : doZ 16 a b = (a, true) := by rw [doZ_16, if_pos hb]
  have c' : (b == 0) = true := by rw [beq_iff_eq]; exact hb
  clear hb
  go_enter Try.func6, Try.ntmps6; go_wp2_with (first | (go_at_call 17; refine (do_any _ _ _ _ a0 a1 b0 b1).mono ?_; rintro e w1 ⟨rfl, hb⟩; replace HB := keepB HB hb; clear hb) | (go_at_call 14; refine (awake_any _).mono ?_; rintro e w1 ⟨rfl, hb⟩; replace HB := keepB HB hb; clear hb))
  go_ret
  exact ⟨rfl, HB.out.1⟩

set_option maxHeartbeats 4000000 in
theorem back_1 (a b Q R S T X Y Z : Int) (w : World) (a0 : 0 ≤ a) (a1 : a < 4294967296) (b0 : 0 ≤ b) (b1 : b < 4294967296) (c' : (b == 0) = false) (z1 : doZ 15 a b = (Q, true)) (z2 : doZ 17 a b = (R, true)) (z3 : doZ 14 a b = (S, true)) (z4 : doZ 16 a b = (T, true)) (wa : wrap32 a = X) (wb : wrap32 b = Y) (wt : wrap32 T = Z) (q0 : 0 ≤ Q) (q1 : Q < 4294967296) (r0 : 0 ≤ R) (r1 : R < 4294967296) (x0 : -2147483648 ≤ X) (x1 : X < 2147483648) (y0 : -2147483648 ≤ Y) (y1 : Y < 2147483648) (zz0 : -2147483648 ≤ Z) (zz1 : Z < 2147483648) (h1 : IntKind.u64.wrap (IntKind.u64.wrap (Q * b) + R) = a) (h2 : R < b) (h3 : (S * b + T) % 4294967296 = a) (hz : Z < 0) (hx : X ≤ 0) (hy : Y < 0) (hzy : -Z < -Y) : Calls Try.prog 6 #[.int .u32 a, .int .u32 b] w fun e w' => e = .returned (.bool true) ∧ Below w.heap.size w w' := by
  have HB := startB w
  go_enter Try.func6, Try.ntmps6; go_wp2_with (first | (go_at_call 17; refine (do_any _ _ _ _ a0 a1 b0 b1).mono ?_; rintro e w1 ⟨rfl, hb⟩; replace HB := keepB HB hb; clear hb) | (go_at_call 14; refine (awake_any _).mono ?_; rintro e w1 ⟨rfl, hb⟩; replace HB := keepB HB hb; clear hb))
  all_goals (go_ret; exact ⟨rfl, HB.out.1⟩)
set_option maxHeartbeats 4000000 in
theorem back_2 (a b Q R S T X Y Z : Int) (w : World) (a0 : 0 ≤ a) (a1 : a < 4294967296) (b0 : 0 ≤ b) (b1 : b < 4294967296) (c' : (b == 0) = false) (z1 : doZ 15 a b = (Q, true)) (z2 : doZ 17 a b = (R, true)) (z3 : doZ 14 a b = (S, true)) (z4 : doZ 16 a b = (T, true)) (wa : wrap32 a = X) (wb : wrap32 b = Y) (wt : wrap32 T = Z) (q0 : 0 ≤ Q) (q1 : Q < 4294967296) (r0 : 0 ≤ R) (r1 : R < 4294967296) (x0 : -2147483648 ≤ X) (x1 : X < 2147483648) (y0 : -2147483648 ≤ Y) (y1 : Y < 2147483648) (zz0 : -2147483648 ≤ Z) (zz1 : Z < 2147483648) (h1 : IntKind.u64.wrap (IntKind.u64.wrap (Q * b) + R) = a) (h2 : R < b) (h3 : (S * b + T) % 4294967296 = a) (hz : Z < 0) (hx : X ≤ 0) (hy : 0 ≤ Y) (hzy : -Z < Y) : Calls Try.prog 6 #[.int .u32 a, .int .u32 b] w fun e w' => e = .returned (.bool true) ∧ Below w.heap.size w w' := by
  have HB := startB w
  go_enter Try.func6, Try.ntmps6; go_wp2_with (first | (go_at_call 17; refine (do_any _ _ _ _ a0 a1 b0 b1).mono ?_; rintro e w1 ⟨rfl, hb⟩; replace HB := keepB HB hb; clear hb) | (go_at_call 14; refine (awake_any _).mono ?_; rintro e w1 ⟨rfl, hb⟩; replace HB := keepB HB hb; clear hb))
  all_goals (go_ret; exact ⟨rfl, HB.out.1⟩)
set_option maxHeartbeats 4000000 in
theorem back_3 (a b Q R S T X Y Z : Int) (w : World) (a0 : 0 ≤ a) (a1 : a < 4294967296) (b0 : 0 ≤ b) (b1 : b < 4294967296) (c' : (b == 0) = false) (z1 : doZ 15 a b = (Q, true)) (z2 : doZ 17 a b = (R, true)) (z3 : doZ 14 a b = (S, true)) (z4 : doZ 16 a b = (T, true)) (wa : wrap32 a = X) (wb : wrap32 b = Y) (wt : wrap32 T = Z) (q0 : 0 ≤ Q) (q1 : Q < 4294967296) (r0 : 0 ≤ R) (r1 : R < 4294967296) (x0 : -2147483648 ≤ X) (x1 : X < 2147483648) (y0 : -2147483648 ≤ Y) (y1 : Y < 2147483648) (zz0 : -2147483648 ≤ Z) (zz1 : Z < 2147483648) (h1 : IntKind.u64.wrap (IntKind.u64.wrap (Q * b) + R) = a) (h2 : R < b) (h3 : (S * b + T) % 4294967296 = a) (hz : 0 ≤ Z) (hz' : Z ≤ 0) (hy : Y < 0) (hzy : Z < -Y) : Calls Try.prog 6 #[.int .u32 a, .int .u32 b] w fun e w' => e = .returned (.bool true) ∧ Below w.heap.size w w' := by
  have HB := startB w
  go_enter Try.func6, Try.ntmps6; go_wp2_with (first | (go_at_call 17; refine (do_any _ _ _ _ a0 a1 b0 b1).mono ?_; rintro e w1 ⟨rfl, hb⟩; replace HB := keepB HB hb; clear hb) | (go_at_call 14; refine (awake_any _).mono ?_; rintro e w1 ⟨rfl, hb⟩; replace HB := keepB HB hb; clear hb))
  all_goals (go_ret; exact ⟨rfl, HB.out.1⟩)
set_option maxHeartbeats 4000000 in
theorem back_4 (a b Q R S T X Y Z : Int) (w : World) (a0 : 0 ≤ a) (a1 : a < 4294967296) (b0 : 0 ≤ b) (b1 : b < 4294967296) (c' : (b == 0) = false) (z1 : doZ 15 a b = (Q, true)) (z2 : doZ 17 a b = (R, true)) (z3 : doZ 14 a b = (S, true)) (z4 : doZ 16 a b = (T, true)) (wa : wrap32 a = X) (wb : wrap32 b = Y) (wt : wrap32 T = Z) (q0 : 0 ≤ Q) (q1 : Q < 4294967296) (r0 : 0 ≤ R) (r1 : R < 4294967296) (x0 : -2147483648 ≤ X) (x1 : X < 2147483648) (y0 : -2147483648 ≤ Y) (y1 : Y < 2147483648) (zz0 : -2147483648 ≤ Z) (zz1 : Z < 2147483648) (h1 : IntKind.u64.wrap (IntKind.u64.wrap (Q * b) + R) = a) (h2 : R < b) (h3 : (S * b + T) % 4294967296 = a) (hz : 0 ≤ Z) (hz' : Z ≤ 0) (hy : 0 ≤ Y) (hzy : Z < Y) : Calls Try.prog 6 #[.int .u32 a, .int .u32 b] w fun e w' => e = .returned (.bool true) ∧ Below w.heap.size w w' := by
  have HB := startB w
  go_enter Try.func6, Try.ntmps6; go_wp2_with (first | (go_at_call 17; refine (do_any _ _ _ _ a0 a1 b0 b1).mono ?_; rintro e w1 ⟨rfl, hb⟩; replace HB := keepB HB hb; clear hb) | (go_at_call 14; refine (awake_any _).mono ?_; rintro e w1 ⟨rfl, hb⟩; replace HB := keepB HB hb; clear hb))
  all_goals (go_ret; exact ⟨rfl, HB.out.1⟩)
set_option maxHeartbeats 4000000 in
theorem back_5 (a b Q R S T X Y Z : Int) (w : World) (a0 : 0 ≤ a) (a1 : a < 4294967296) (b0 : 0 ≤ b) (b1 : b < 4294967296) (c' : (b == 0) = false) (z1 : doZ 15 a b = (Q, true)) (z2 : doZ 17 a b = (R, true)) (z3 : doZ 14 a b = (S, true)) (z4 : doZ 16 a b = (T, true)) (wa : wrap32 a = X) (wb : wrap32 b = Y) (wt : wrap32 T = Z) (q0 : 0 ≤ Q) (q1 : Q < 4294967296) (r0 : 0 ≤ R) (r1 : R < 4294967296) (x0 : -2147483648 ≤ X) (x1 : X < 2147483648) (y0 : -2147483648 ≤ Y) (y1 : Y < 2147483648) (zz0 : -2147483648 ≤ Z) (zz1 : Z < 2147483648) (h1 : IntKind.u64.wrap (IntKind.u64.wrap (Q * b) + R) = a) (h2 : R < b) (h3 : (S * b + T) % 4294967296 = a) (hz : 0 < Z) (hx : 0 ≤ X) (hy : Y < 0) (hzy : Z < -Y) : Calls Try.prog 6 #[.int .u32 a, .int .u32 b] w fun e w' => e = .returned (.bool true) ∧ Below w.heap.size w w' := by
  have HB := startB w
  go_enter Try.func6, Try.ntmps6; go_wp2_with (first | (go_at_call 17; refine (do_any _ _ _ _ a0 a1 b0 b1).mono ?_; rintro e w1 ⟨rfl, hb⟩; replace HB := keepB HB hb; clear hb) | (go_at_call 14; refine (awake_any _).mono ?_; rintro e w1 ⟨rfl, hb⟩; replace HB := keepB HB hb; clear hb))
  all_goals (go_ret; exact ⟨rfl, HB.out.1⟩)
set_option maxHeartbeats 4000000 in
theorem back_6 (a b Q R S T X Y Z : Int) (w : World) (a0 : 0 ≤ a) (a1 : a < 4294967296) (b0 : 0 ≤ b) (b1 : b < 4294967296) (c' : (b == 0) = false) (z1 : doZ 15 a b = (Q, true)) (z2 : doZ 17 a b = (R, true)) (z3 : doZ 14 a b = (S, true)) (z4 : doZ 16 a b = (T, true)) (wa : wrap32 a = X) (wb : wrap32 b = Y) (wt : wrap32 T = Z) (q0 : 0 ≤ Q) (q1 : Q < 4294967296) (r0 : 0 ≤ R) (r1 : R < 4294967296) (x0 : -2147483648 ≤ X) (x1 : X < 2147483648) (y0 : -2147483648 ≤ Y) (y1 : Y < 2147483648) (zz0 : -2147483648 ≤ Z) (zz1 : Z < 2147483648) (h1 : IntKind.u64.wrap (IntKind.u64.wrap (Q * b) + R) = a) (h2 : R < b) (h3 : (S * b + T) % 4294967296 = a) (hz : 0 < Z) (hx : 0 ≤ X) (hy : 0 ≤ Y) (hzy : Z < Y) : Calls Try.prog 6 #[.int .u32 a, .int .u32 b] w fun e w' => e = .returned (.bool true) ∧ Below w.heap.size w w' := by
  have HB := startB w
  go_enter Try.func6, Try.ntmps6; go_wp2_with (first | (go_at_call 17; refine (do_any _ _ _ _ a0 a1 b0 b1).mono ?_; rintro e w1 ⟨rfl, hb⟩; replace HB := keepB HB hb; clear hb) | (go_at_call 14; refine (awake_any _).mono ?_; rintro e w1 ⟨rfl, hb⟩; replace HB := keepB HB hb; clear hb))
  all_goals (go_ret; exact ⟨rfl, HB.out.1⟩)

theorem sgn_mod (a : Int) : sgn a % 4294967296 = a % 4294967296 := by unfold sgn; split <;> omega
theorem tmod_abs (x : Int) {y : Int} (hy : y ≠ 0) : (x.tmod y).natAbs < y.natAbs := by rw [Int.natAbs_tmod]; exact Nat.mod_lt _ (by omega)

theorem back_any (a b : Int) (w : World) (a0 : 0 ≤ a) (a1 : a < 4294967296) (b0 : 0 ≤ b) (b1 : b < 4294967296) : Calls Try.prog 6 #[.int .u32 a, .int .u32 b] w fun e w' => e = .returned (.bool true) ∧ Below w.heap.size w w' := by
  by_cases c : b = 0
  · exact back_zero a b w a0 a1 b0 b1 c
  · have c' : (b == 0) = false := beq_no c
    have z1 : doZ 15 a b = (a / b, true) := by rw [doZ_15, if_neg c]
    have z2 : doZ 17 a b = (a % b, true) := by rw [doZ_17, if_neg c]
    have z3 : doZ 14 a b = ((sgn a).tdiv (sgn b) % 4294967296, true) := by rw [doZ_14, if_neg c]
    have z4 : doZ 16 a b = ((sgn a).tmod (sgn b) % 4294967296, true) := by rw [doZ_16, if_neg c]
    have sa := sgn_bounds a0 a1
    have sb := sgn_bounds b0 b1
    have nb := sgn_zero b0 b1 c
    have ht := tmod_abs (sgn a) nb
    have h1 : IntKind.u64.wrap (IntKind.u64.wrap (a / b * b) + a % b) = a := by
      have h := Int.mul_ediv_add_emod a b
      rw [Int.mul_comm] at h
      have hr := Int.emod_nonneg a c
      have hq : 0 ≤ a / b * b := Int.mul_nonneg (Int.ediv_nonneg a0 b0) b0
      rw [wrap_u64_in hq (by omega), wrap_u64_in (by omega) (by omega), h]
    have h2 : a % b < b := Int.emod_lt_of_pos a (by omega)
    have h3 : ((sgn a).tdiv (sgn b) % 4294967296 * b + (sgn a).tmod (sgn b) % 4294967296) % 4294967296 = a := by
      rw [Int.add_emod, Int.mul_emod, Int.emod_emod_of_dvd _ (Int.dvd_refl _), Int.emod_emod_of_dvd _ (Int.dvd_refl _), ← sgn_mod b, ← Int.mul_emod, ← Int.add_emod]
      have h := Int.mul_tdiv_add_tmod (sgn a) (sgn b)
      rw [Int.mul_comm] at h
      rw [h, sgn_mod a, Int.emod_eq_of_lt a0 a1]
    have wt : wrap32 ((sgn a).tmod (sgn b) % 4294967296) = (sgn a).tmod (sgn b) := by unfold wrap32; omega
    have ss : (0 ≤ sgn a → 0 ≤ (sgn a).tmod (sgn b)) := fun h => Int.tmod_nonneg _ h
    have ss2 : (sgn a ≤ 0 → (sgn a).tmod (sgn b) ≤ 0) := fun h => by
      have h2 := Int.tmod_nonneg (sgn b) (show 0 ≤ -(sgn a) by omega)
      rw [Int.neg_tmod] at h2
      omega
    have wa := wrap_sgn a0 a1
    have wb := wrap_sgn b0 b1
    have q0 : 0 ≤ a / b := Int.ediv_nonneg a0 b0
    have q1 : a / b < 4294967296 := by have := Int.ediv_le_self b a0; omega
    have r0 : 0 ≤ a % b := Int.emod_nonneg a c
    have r1 : a % b < 4294967296 := by omega
    by_cases hy : sgn b < 0
    · by_cases hz : (sgn a).tmod (sgn b) < 0
      · exact back_1 a b _ _ _ _ _ _ _ w a0 a1 b0 b1 c' z1 z2 z3 z4 wa wb wt q0 q1 r0 r1 sa.1 sa.2 sb.1 sb.2 (by omega) (by omega) h1 h2 h3 hz (by omega) hy (by omega)
      · by_cases hz2 : (sgn a).tmod (sgn b) ≤ 0
        · exact back_3 a b _ _ _ _ _ _ _ w a0 a1 b0 b1 c' z1 z2 z3 z4 wa wb wt q0 q1 r0 r1 sa.1 sa.2 sb.1 sb.2 (by omega) (by omega) h1 h2 h3 (by omega) hz2 hy (by omega)
        · exact back_5 a b _ _ _ _ _ _ _ w a0 a1 b0 b1 c' z1 z2 z3 z4 wa wb wt q0 q1 r0 r1 sa.1 sa.2 sb.1 sb.2 (by omega) (by omega) h1 h2 h3 (by omega) (by omega) hy (by omega)
    · by_cases hz : (sgn a).tmod (sgn b) < 0
      · exact back_2 a b _ _ _ _ _ _ _ w a0 a1 b0 b1 c' z1 z2 z3 z4 wa wb wt q0 q1 r0 r1 sa.1 sa.2 sb.1 sb.2 (by omega) (by omega) h1 h2 h3 hz (by omega) (by omega) (by omega)
      · by_cases hz2 : (sgn a).tmod (sgn b) ≤ 0
        · exact back_4 a b _ _ _ _ _ _ _ w a0 a1 b0 b1 c' z1 z2 z3 z4 wa wb wt q0 q1 r0 r1 sa.1 sa.2 sb.1 sb.2 (by omega) (by omega) h1 h2 h3 (by omega) hz2 (by omega) (by omega)
        · exact back_6 a b _ _ _ _ _ _ _ w a0 a1 b0 b1 c' z1 z2 z3 z4 wa wb wt q0 q1 r0 r1 sa.1 sa.2 sb.1 sb.2 (by omega) (by omega) h1 h2 h3 (by omega) (by omega) (by omega) (by omega)

end Go.Proofs.Ytimcdkmbiggapaa.My
