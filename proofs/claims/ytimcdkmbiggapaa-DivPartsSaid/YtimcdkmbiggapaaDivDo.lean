/- Walks over package div and its reference: the operations, and the chapter's examples. -/
import Derived.Test.YtimcdkmbiggapaaDivRuns
namespace Go.Proofs.Ytimcdkmbiggapaa.My
open Go.RowKit

/-- The signed number that a word is. -/
def sgn (a : Int) : Int := if 2147483648 ≤ a then a - 4294967296 else a
def runQ (a b : Int) : Int := (runD (newD a b)).q
def runR (a b : Int) : Int := (runD (newD a b)).r
def sqD (a b : Int) : Int := if b = 0 then 4294967295 else if (sgn a < 0) = (sgn b < 0) then runQ (awayZ a) (awayZ b) else -(runQ (awayZ a) (awayZ b)) % 4294967296
def srD (a b : Int) : Int := if b = 0 then a else if sgn a < 0 then -(runR (awayZ a) (awayZ b)) % 4294967296 else runR (awayZ a) (awayZ b)
theorem away_bounds {a : Int} (h0 : 0 ≤ a) (h1 : a < 4294967296) : 0 ≤ awayZ a ∧ awayZ a < 4294967296 := by unfold awayZ; split <;> omega
theorem wrap_sgn {a : Int} (h0 : 0 ≤ a) (h1 : a < 4294967296) : wrap32 a = sgn a := by unfold wrap32 sgn; split <;> omega

theorem do_15 (a b : Int) (w : World) (a0 : 0 ≤ a) (a1 : a < 4294967296) (b0 : 0 ≤ b) (b1 : b < 4294967296) : Calls Try.prog 17 #[.int .i64 15, .int .u32 a, .int .u32 b] w fun e w' => e = .returned (.tuple #[.int .u32 (runQ a b), .bool true]) ∧ Below w.heap.size w w' := by
  have HB := startB w
  have HO := Lib.hid (ok_new ⟨a0, a1⟩ ⟨b0, b1⟩)
  go_enter Try.func17, Try.ntmps17
  go_wp2_with (first | (go_at_call 12; refine (new_any _ _ _).mono ?_; rintro e w1 ⟨rfl, hb⟩; replace HB := keepB HB hb; clear hb) | (go_at_call 15; refine (run_any (newD a b) _ HO.out).mono ?_; rintro e w1 ⟨rfl, hb⟩; replace HB := keepB HB hb; clear hb))
  go_ret2
  exact ⟨rfl, HB.out.1⟩
theorem do_17 (a b : Int) (w : World) (a0 : 0 ≤ a) (a1 : a < 4294967296) (b0 : 0 ≤ b) (b1 : b < 4294967296) : Calls Try.prog 17 #[.int .i64 17, .int .u32 a, .int .u32 b] w fun e w' => e = .returned (.tuple #[.int .u32 (runR a b), .bool true]) ∧ Below w.heap.size w w' := by
  have HB := startB w
  have HO := Lib.hid (ok_new ⟨a0, a1⟩ ⟨b0, b1⟩)
  go_enter Try.func17, Try.ntmps17
  go_wp2_with (first | (go_at_call 12; refine (new_any _ _ _).mono ?_; rintro e w1 ⟨rfl, hb⟩; replace HB := keepB HB hb; clear hb) | (go_at_call 15; refine (run_any (newD a b) _ HO.out).mono ?_; rintro e w1 ⟨rfl, hb⟩; replace HB := keepB HB hb; clear hb))
  go_ret2
  exact ⟨rfl, HB.out.1⟩
theorem do_no (op a b : Int) (w : World) (h15 : (op == 15) = false) (h17 : (op == 17) = false) (h14 : (op == 14) = false) (h16 : (op == 16) = false) : Calls Try.prog 17 #[.int .i64 op, .int .u32 a, .int .u32 b] w fun e w' => e = .returned (.tuple #[.int .u32 0, .bool false]) ∧ Below w.heap.size w w' := by
  go_enter Try.func17, Try.ntmps17
  go_wp2
  go_ret2
  exact ⟨rfl, Below.refl _ _⟩
set_option maxHeartbeats 1000000 in
theorem do_14 (a b : Int) (w : World) (a0 : 0 ≤ a) (a1 : a < 4294967296) (b0 : 0 ≤ b) (b1 : b < 4294967296) : Calls Try.prog 17 #[.int .i64 14, .int .u32 a, .int .u32 b] w fun e w' => e = .returned (.tuple #[.int .u32 (sqD a b), .bool true]) ∧ Below w.heap.size w w' := by
  have HB := startB w
  have HO := Lib.hid (ok_new (away_bounds a0 a1) (away_bounds b0 b1))
  have wa := wrap_sgn a0 a1
  have wb := wrap_sgn b0 b1
  by_cases c : b = 0
  · have c' : (b == 0) = true := by rw [beq_iff_eq]; exact c
    have hs : sqD a b = 4294967295 := by unfold sqD; rw [if_pos c]
    rw [hs]
    clear hs c
    go_enter Try.func17, Try.ntmps17; go_wp2_with (first | (go_at_call 12; refine (new_any _ _ _).mono ?_; rintro e w1 ⟨rfl, hb⟩; replace HB := keepB HB hb; clear hb) | (go_at_call 22; refine (away_any _ _ (by omega) (by omega)).mono ?_; rintro e w1 ⟨rfl, rfl⟩) | (go_at_call 15; refine (run_any (newD (awayZ a) (awayZ b)) _ HO.out).mono ?_; rintro e w1 ⟨rfl, hb⟩; replace HB := keepB HB hb; clear hb))
    all_goals (go_ret2; exact ⟨rfl, HB.out.1⟩)
  · have c' : (b == 0) = false := by rw [beq_eq_false_iff_ne]; exact c
    by_cases ca : sgn a < 0
    · have da : decide (sgn a < 0) = true := decide_eq_true ca
      by_cases cb : sgn b < 0
      · have db : decide (sgn b < 0) = true := decide_eq_true cb
        have hs : sqD a b = runQ (awayZ a) (awayZ b) := by unfold sqD; rw [if_neg c, if_pos (by simp [ca, cb])]
        rw [hs]
        clear hs c
        go_enter Try.func17, Try.ntmps17; go_wp2_with (first | (go_at_call 12; refine (new_any _ _ _).mono ?_; rintro e w1 ⟨rfl, hb⟩; replace HB := keepB HB hb; clear hb) | (go_at_call 22; refine (away_any _ _ (by omega) (by omega)).mono ?_; rintro e w1 ⟨rfl, rfl⟩) | (go_at_call 15; refine (run_any (newD (awayZ a) (awayZ b)) _ HO.out).mono ?_; rintro e w1 ⟨rfl, hb⟩; replace HB := keepB HB hb; clear hb))
        go_ret2
        exact ⟨rfl, HB.out.1⟩
      · have db : decide (sgn b < 0) = false := decide_eq_false cb
        have hs : sqD a b = -(runQ (awayZ a) (awayZ b)) % 4294967296 := by unfold sqD; rw [if_neg c, if_neg (by simp [ca, cb])]
        rw [hs]
        clear hs c
        go_enter Try.func17, Try.ntmps17; go_wp2_with (first | (go_at_call 12; refine (new_any _ _ _).mono ?_; rintro e w1 ⟨rfl, hb⟩; replace HB := keepB HB hb; clear hb) | (go_at_call 22; refine (away_any _ _ (by omega) (by omega)).mono ?_; rintro e w1 ⟨rfl, rfl⟩) | (go_at_call 15; refine (run_any (newD (awayZ a) (awayZ b)) _ HO.out).mono ?_; rintro e w1 ⟨rfl, hb⟩; replace HB := keepB HB hb; clear hb))
        go_ret2
        exact ⟨rfl, HB.out.1⟩
    · have da : decide (sgn a < 0) = false := decide_eq_false ca
      by_cases cb : sgn b < 0
      · have db : decide (sgn b < 0) = true := decide_eq_true cb
        have hs : sqD a b = -(runQ (awayZ a) (awayZ b)) % 4294967296 := by unfold sqD; rw [if_neg c, if_neg (by simp [ca, cb])]
        rw [hs]
        clear hs c
        go_enter Try.func17, Try.ntmps17; go_wp2_with (first | (go_at_call 12; refine (new_any _ _ _).mono ?_; rintro e w1 ⟨rfl, hb⟩; replace HB := keepB HB hb; clear hb) | (go_at_call 22; refine (away_any _ _ (by omega) (by omega)).mono ?_; rintro e w1 ⟨rfl, rfl⟩) | (go_at_call 15; refine (run_any (newD (awayZ a) (awayZ b)) _ HO.out).mono ?_; rintro e w1 ⟨rfl, hb⟩; replace HB := keepB HB hb; clear hb))
        go_ret2
        exact ⟨rfl, HB.out.1⟩
      · have db : decide (sgn b < 0) = false := decide_eq_false cb
        have hs : sqD a b = runQ (awayZ a) (awayZ b) := by unfold sqD; rw [if_neg c, if_pos (by simp [ca, cb])]
        rw [hs]
        clear hs c
        go_enter Try.func17, Try.ntmps17; go_wp2_with (first | (go_at_call 12; refine (new_any _ _ _).mono ?_; rintro e w1 ⟨rfl, hb⟩; replace HB := keepB HB hb; clear hb) | (go_at_call 22; refine (away_any _ _ (by omega) (by omega)).mono ?_; rintro e w1 ⟨rfl, rfl⟩) | (go_at_call 15; refine (run_any (newD (awayZ a) (awayZ b)) _ HO.out).mono ?_; rintro e w1 ⟨rfl, hb⟩; replace HB := keepB HB hb; clear hb))
        go_ret2
        exact ⟨rfl, HB.out.1⟩

set_option maxHeartbeats 1000000 in
theorem do_16 (a b : Int) (w : World) (a0 : 0 ≤ a) (a1 : a < 4294967296) (b0 : 0 ≤ b) (b1 : b < 4294967296) : Calls Try.prog 17 #[.int .i64 16, .int .u32 a, .int .u32 b] w fun e w' => e = .returned (.tuple #[.int .u32 (srD a b), .bool true]) ∧ Below w.heap.size w w' := by
  have HB := startB w
  have HO := Lib.hid (ok_new (away_bounds a0 a1) (away_bounds b0 b1))
  have wa := wrap_sgn a0 a1
  have wb := wrap_sgn b0 b1
  by_cases c : b = 0
  · have c' : (b == 0) = true := by rw [beq_iff_eq]; exact c
    have hs : srD a b = a := by unfold srD; rw [if_pos c]
    rw [hs]
    clear hs c
    go_enter Try.func17, Try.ntmps17; go_wp2_with (first | (go_at_call 12; refine (new_any _ _ _).mono ?_; rintro e w1 ⟨rfl, hb⟩; replace HB := keepB HB hb; clear hb) | (go_at_call 22; refine (away_any _ _ (by omega) (by omega)).mono ?_; rintro e w1 ⟨rfl, rfl⟩) | (go_at_call 15; refine (run_any (newD (awayZ a) (awayZ b)) _ HO.out).mono ?_; rintro e w1 ⟨rfl, hb⟩; replace HB := keepB HB hb; clear hb))
    all_goals (go_ret2; exact ⟨rfl, HB.out.1⟩)
  · have c' : (b == 0) = false := by rw [beq_eq_false_iff_ne]; exact c
    by_cases ca : sgn a < 0
    · have da : decide (sgn a < 0) = true := decide_eq_true ca
      have hs : srD a b = -(runR (awayZ a) (awayZ b)) % 4294967296 := by unfold srD; rw [if_neg c, if_pos ca]
      rw [hs]
      clear hs c
      by_cases cb : sgn b < 0
      · have db : decide (sgn b < 0) = true := decide_eq_true cb
        go_enter Try.func17, Try.ntmps17; go_wp2_with (first | (go_at_call 12; refine (new_any _ _ _).mono ?_; rintro e w1 ⟨rfl, hb⟩; replace HB := keepB HB hb; clear hb) | (go_at_call 22; refine (away_any _ _ (by omega) (by omega)).mono ?_; rintro e w1 ⟨rfl, rfl⟩) | (go_at_call 15; refine (run_any (newD (awayZ a) (awayZ b)) _ HO.out).mono ?_; rintro e w1 ⟨rfl, hb⟩; replace HB := keepB HB hb; clear hb))
        go_ret2
        exact ⟨rfl, HB.out.1⟩
      · have db : decide (sgn b < 0) = false := decide_eq_false cb
        go_enter Try.func17, Try.ntmps17; go_wp2_with (first | (go_at_call 12; refine (new_any _ _ _).mono ?_; rintro e w1 ⟨rfl, hb⟩; replace HB := keepB HB hb; clear hb) | (go_at_call 22; refine (away_any _ _ (by omega) (by omega)).mono ?_; rintro e w1 ⟨rfl, rfl⟩) | (go_at_call 15; refine (run_any (newD (awayZ a) (awayZ b)) _ HO.out).mono ?_; rintro e w1 ⟨rfl, hb⟩; replace HB := keepB HB hb; clear hb))
        go_ret2
        exact ⟨rfl, HB.out.1⟩
    · have da : decide (sgn a < 0) = false := decide_eq_false ca
      have hs : srD a b = runR (awayZ a) (awayZ b) := by unfold srD; rw [if_neg c, if_neg ca]
      rw [hs]
      clear hs c
      by_cases cb : sgn b < 0
      · have db : decide (sgn b < 0) = true := decide_eq_true cb
        go_enter Try.func17, Try.ntmps17; go_wp2_with (first | (go_at_call 12; refine (new_any _ _ _).mono ?_; rintro e w1 ⟨rfl, hb⟩; replace HB := keepB HB hb; clear hb) | (go_at_call 22; refine (away_any _ _ (by omega) (by omega)).mono ?_; rintro e w1 ⟨rfl, rfl⟩) | (go_at_call 15; refine (run_any (newD (awayZ a) (awayZ b)) _ HO.out).mono ?_; rintro e w1 ⟨rfl, hb⟩; replace HB := keepB HB hb; clear hb))
        go_ret2
        exact ⟨rfl, HB.out.1⟩
      · have db : decide (sgn b < 0) = false := decide_eq_false cb
        go_enter Try.func17, Try.ntmps17; go_wp2_with (first | (go_at_call 12; refine (new_any _ _ _).mono ?_; rintro e w1 ⟨rfl, hb⟩; replace HB := keepB HB hb; clear hb) | (go_at_call 22; refine (away_any _ _ (by omega) (by omega)).mono ?_; rintro e w1 ⟨rfl, rfl⟩) | (go_at_call 15; refine (run_any (newD (awayZ a) (awayZ b)) _ HO.out).mono ?_; rintro e w1 ⟨rfl, hb⟩; replace HB := keepB HB hb; clear hb))
        go_ret2
        exact ⟨rfl, HB.out.1⟩

/-- What Do answers, in plain numbers. -/
def doZ (op a b : Int) : Int × Bool :=
  if op = 15 then (if b = 0 then 4294967295 else a / b, true)
  else if op = 17 then (if b = 0 then a else a % b, true)
  else if op = 14 then (if b = 0 then 4294967295 else (sgn a).tdiv (sgn b) % 4294967296, true)
  else if op = 16 then (if b = 0 then a else (sgn a).tmod (sgn b) % 4294967296, true)
  else (0, false)

theorem runQ_eq {a b : Int} (a0 : 0 ≤ a) (a1 : a < 4294967296) (b0 : 0 ≤ b) (b1 : b < 4294967296) : runQ a b = if b = 0 then 4294967295 else a / b := by
  by_cases c : b = 0
  · rw [if_pos c]; subst c; exact (run_new0 ⟨a0, a1⟩).1
  · rw [if_neg c]; exact (run_new ⟨a0, a1⟩ ⟨by omega, b1⟩).1
theorem runR_eq {a b : Int} (a0 : 0 ≤ a) (a1 : a < 4294967296) (b0 : 0 ≤ b) (b1 : b < 4294967296) : runR a b = if b = 0 then a else a % b := by
  by_cases c : b = 0
  · rw [if_pos c]; subst c; exact (run_new0 ⟨a0, a1⟩).2
  · rw [if_neg c]; exact (run_new ⟨a0, a1⟩ ⟨by omega, b1⟩).2
theorem away_abs {a : Int} (a0 : 0 ≤ a) (a1 : a < 4294967296) : awayZ a = if sgn a < 0 then - sgn a else sgn a := by
  unfold awayZ sgn
  by_cases c : 2147483648 ≤ a
  · rw [if_pos c, if_pos c, if_pos (by omega)]; omega
  · rw [if_neg c, if_neg c, if_neg (by omega)]
theorem sgn_bounds {a : Int} (a0 : 0 ≤ a) (a1 : a < 4294967296) : -2147483648 ≤ sgn a ∧ sgn a < 2147483648 := by unfold sgn; split <;> omega
theorem sgn_zero {a : Int} (a0 : 0 ≤ a) (a1 : a < 4294967296) (h : a ≠ 0) : sgn a ≠ 0 := by unfold sgn; split <;> omega
theorem sq_eq {a b : Int} (a0 : 0 ≤ a) (a1 : a < 4294967296) (b0 : 0 ≤ b) (b1 : b < 4294967296) (c : b ≠ 0) : sqD a b = (sgn a).tdiv (sgn b) % 4294967296 := by
  have ha := away_bounds a0 a1
  have hb := away_bounds b0 b1
  have sb := sgn_bounds b0 b1
  have sa := sgn_bounds a0 a1
  have nb := sgn_zero b0 b1 c
  have ea := away_abs a0 a1
  have eb := away_abs b0 b1
  have hq := runQ_eq ha.1 ha.2 hb.1 hb.2
  unfold sqD
  rw [if_neg c]
  generalize sgn a = x at *
  generalize sgn b = y at *
  by_cases ca : x < 0
  · rw [if_pos ca] at ea
    by_cases cb : y < 0
    · rw [if_pos cb] at eb
      rw [if_pos (by simp [ca, cb]), hq, ea, eb, if_neg (by omega)]
      rw [show x.tdiv y = (-x).tdiv (-y) by rw [Int.neg_tdiv_neg], Int.tdiv_eq_ediv_of_nonneg (by omega)]
      have h0 : 0 ≤ (-x) / (-y) := Int.ediv_nonneg (by omega) (by omega)
      have h1 : (-x) / (-y) ≤ -x := Int.ediv_le_self _ (by omega)
      exact (Int.emod_eq_of_lt h0 (by omega)).symm
    · rw [if_neg cb] at eb
      rw [if_neg (by simp [ca, cb]), hq, ea, eb, if_neg (by omega)]
      rw [show x.tdiv y = -((-x).tdiv y) by rw [Int.neg_tdiv, Int.neg_neg], Int.tdiv_eq_ediv_of_nonneg (by omega)]
  · rw [if_neg ca] at ea
    by_cases cb : y < 0
    · rw [if_pos cb] at eb
      rw [if_neg (by simp [ca, cb]), hq, ea, eb, if_neg (by omega)]
      rw [show x.tdiv y = -(x.tdiv (-y)) by rw [Int.tdiv_neg, Int.neg_neg], Int.tdiv_eq_ediv_of_nonneg (by omega)]
    · rw [if_neg cb] at eb
      rw [if_pos (by simp [ca, cb]), hq, ea, eb, if_neg (by omega)]
      rw [Int.tdiv_eq_ediv_of_nonneg (by omega)]
      have h0 : 0 ≤ x / y := Int.ediv_nonneg (by omega) (by omega)
      have h1 : x / y ≤ x := Int.ediv_le_self _ (by omega)
      exact (Int.emod_eq_of_lt h0 (by omega)).symm
theorem emod_le' {x y : Int} (h0 : 0 ≤ x) (hy : 0 < y) : 0 ≤ x % y ∧ x % y ≤ x := by
  have h1 := Int.emod_nonneg x (show y ≠ 0 by omega)
  have h2 := Int.mul_ediv_add_emod x y
  have h3 : 0 ≤ y * (x / y) := Int.mul_nonneg (by omega) (Int.ediv_nonneg h0 (by omega))
  omega
theorem sr_eq {a b : Int} (a0 : 0 ≤ a) (a1 : a < 4294967296) (b0 : 0 ≤ b) (b1 : b < 4294967296) (c : b ≠ 0) : srD a b = (sgn a).tmod (sgn b) % 4294967296 := by
  have ha := away_bounds a0 a1
  have hb := away_bounds b0 b1
  have sb := sgn_bounds b0 b1
  have sa := sgn_bounds a0 a1
  have nb := sgn_zero b0 b1 c
  have ea := away_abs a0 a1
  have eb := away_abs b0 b1
  have hq := runR_eq ha.1 ha.2 hb.1 hb.2
  unfold srD
  rw [if_neg c]
  generalize sgn a = x at *
  generalize sgn b = y at *
  by_cases ca : x < 0
  · rw [if_pos ca] at ea
    rw [if_pos ca, hq, ea]
    by_cases cb : y < 0
    · rw [if_pos cb] at eb
      rw [eb, if_neg (by omega), show x.tmod y = -((-x).tmod (-y)) by rw [Int.tmod_neg, Int.neg_tmod, Int.neg_neg], Int.tmod_eq_emod_of_nonneg (by omega)]
    · rw [if_neg cb] at eb
      rw [eb, if_neg (by omega), show x.tmod y = -((-x).tmod y) by rw [Int.neg_tmod, Int.neg_neg], Int.tmod_eq_emod_of_nonneg (by omega)]
  · rw [if_neg ca] at ea
    rw [if_neg ca, hq, ea]
    by_cases cb : y < 0
    · rw [if_pos cb] at eb
      rw [eb, if_neg (by omega), show x.tmod y = x.tmod (-y) by rw [Int.tmod_neg], Int.tmod_eq_emod_of_nonneg (by omega)]
      have := emod_le' (x := x) (y := -y) (by omega) (by omega)
      exact (Int.emod_eq_of_lt this.1 (by omega)).symm
    · rw [if_neg cb] at eb
      rw [eb, if_neg (by omega), Int.tmod_eq_emod_of_nonneg (by omega)]
      have := emod_le' (x := x) (y := y) (by omega) (by omega)
      exact (Int.emod_eq_of_lt this.1 (by omega)).symm

theorem do_any (op a b : Int) (w : World) (a0 : 0 ≤ a) (a1 : a < 4294967296) (b0 : 0 ≤ b) (b1 : b < 4294967296) : Calls Try.prog 17 #[.int .i64 op, .int .u32 a, .int .u32 b] w fun e w' => e = .returned (.tuple #[.int .u32 (doZ op a b).1, .bool (doZ op a b).2]) ∧ Below w.heap.size w w' := by
  by_cases c15 : op = 15
  · subst c15
    have h := do_15 a b w a0 a1 b0 b1
    rwa [runQ_eq a0 a1 b0 b1] at h
  · by_cases c17 : op = 17
    · subst c17
      have h := do_17 a b w a0 a1 b0 b1
      rwa [runR_eq a0 a1 b0 b1] at h
    · by_cases c14 : op = 14
      · subst c14
        have h := do_14 a b w a0 a1 b0 b1
        have e : sqD a b = (doZ 14 a b).1 := by
          show _ = if b = 0 then 4294967295 else (sgn a).tdiv (sgn b) % 4294967296
          by_cases c : b = 0
          · rw [if_pos c]; unfold sqD; rw [if_pos c]
          · rw [if_neg c]; exact sq_eq a0 a1 b0 b1 c
        rwa [e] at h
      · by_cases c16 : op = 16
        · subst c16
          have h := do_16 a b w a0 a1 b0 b1
          have e : srD a b = (doZ 16 a b).1 := by
            show _ = if b = 0 then a else (sgn a).tmod (sgn b) % 4294967296
            by_cases c : b = 0
            · rw [if_pos c]; unfold srD; rw [if_pos c]
            · rw [if_neg c]; exact sr_eq a0 a1 b0 b1 c
          rwa [e] at h
        · have h := do_no op a b w (by rw [beq_eq_false_iff_ne]; exact c15) (by rw [beq_eq_false_iff_ne]; exact c17) (by rw [beq_eq_false_iff_ne]; exact c14) (by rw [beq_eq_false_iff_ne]; exact c16)
          have e : doZ op a b = (0, false) := by unfold doZ; rw [if_neg c15, if_neg c17, if_neg c14, if_neg c16]
          rw [e]; exact h

end Go.Proofs.Ytimcdkmbiggapaa.My
