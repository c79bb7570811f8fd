/- Walks over package alu: what each function answers. -/
import Derived.Test.YteepcoigihbdoaaRowWords
import Derived.LoopTactic
import Derived.Outline
import Derived.BigQuiet
import Derived.Deep.QuietTactic
import Derived.RegionTactic
import Derived.Laws.BitsLemmas
set_option linter.unusedVariables false
namespace Go.Proofs.Yteepcoigihbdoaa.My
open Go.RowKit

/-- The signed number that a word is. -/
def sgn (a : Int) : Int := if 2147483648 ≤ a then a - 4294967296 else a
theorem wrap_sgn {a : Int} (h0 : 0 ≤ a) (h1 : a < 4294967296) : wrap32 a = sgn a := by unfold wrap32 sgn; split <;> omega
theorem sgn_bounds {a : Int} (a0 : 0 ≤ a) (a1 : a < 4294967296) : -2147483648 ≤ sgn a ∧ sgn a < 2147483648 := by unfold sgn; split <;> omega
theorem sgn_mod {a : Int} (a0 : 0 ≤ a) (a1 : a < 4294967296) : sgn a % 4294967296 = a := by unfold sgn; split <;> omega
theorem and31 {x : Int} (h0 : 0 ≤ x) (h1 : x < 4294967296) : bits .and .u32 x 31 = x % 32 := by
  have := bits_mask .u32 32 (by decide) (fun n a b => by rw [IntKind.wrap_u32]; omega) 5 (by decide) x h0 (by simpa using h1)
  simpa using this

theorem low_any (b : Int) (w : World) (b0 : 0 ≤ b) (b1 : b < 4294967296) : Calls Try.prog 31 #[.int .u32 b] w fun e w' => e = .returned (.int .u32 (b % 32)) ∧ w = w' := by
  have h := and31 b0 b1
  go_enter Try.func31, Try.ntmps31
  go_wp2
  go_ret
  exact ⟨rfl, rfl⟩
theorem one_true (w : World) : Calls Try.prog 22 #[.bool true] w fun e w' => e = .returned (.int .u32 1) ∧ w = w' := by
  go_enter Try.func22, Try.ntmps22
  go_wp2
  go_ret
  exact ⟨rfl, rfl⟩
theorem one_false (w : World) : Calls Try.prog 22 #[.bool false] w fun e w' => e = .returned (.int .u32 0) ∧ w = w' := by
  go_enter Try.func22, Try.ntmps22
  go_wp2
  go_ret
  exact ⟨rfl, rfl⟩

/-- The operation answers this number, and that it is one. -/
structure DoTo (op a b v : Int) (t : Bool) : Prop where
  out : ∀ w, Calls Try.prog 8 #[.int .i64 op, .int .u32 a, .int .u32 b] w fun e w' => e = .returned (.tuple #[.int .u32 v, .bool t]) ∧ w = w'
abbrev DoIs (op a b v : Int) : Prop := DoTo op a b v true
theorem do_slt (a b : Int) (a0 : 0 ≤ a) (a1 : a < 4294967296) (b0 : 0 ≤ b) (b1 : b < 4294967296) : DoIs 9 a b (if sgn a < sgn b then 1 else 0) := by
  constructor
  intro w
  have wa := wrap_sgn a0 a1
  have wb := wrap_sgn b0 b1
  by_cases c : sgn a < sgn b
  · rw [if_pos c]
    have c' : decide (sgn a < sgn b) = true := decide_eq_true c
    go_enter Try.func8, Try.ntmps8; go_wp2_with (first | (go_at_call 22; refine (one_true _).mono ?_; rintro e w' ⟨rfl, rfl⟩) | (go_at_call 22; refine (one_false _).mono ?_; rintro e w' ⟨rfl, rfl⟩))
    all_goals (go_ret2; exact ⟨rfl, rfl⟩)
  · rw [if_neg c]
    have c' : decide (sgn a < sgn b) = false := decide_eq_false c
    go_enter Try.func8, Try.ntmps8; go_wp2_with (first | (go_at_call 22; refine (one_true _).mono ?_; rintro e w' ⟨rfl, rfl⟩) | (go_at_call 22; refine (one_false _).mono ?_; rintro e w' ⟨rfl, rfl⟩))
    all_goals (go_ret2; exact ⟨rfl, rfl⟩)
theorem do_slti (a b : Int) (a0 : 0 ≤ a) (a1 : a < 4294967296) (b0 : 0 ≤ b) (b1 : b < 4294967296) : DoIs 29 a b (if sgn a < sgn b then 1 else 0) := by
  constructor
  intro w
  have wa := wrap_sgn a0 a1
  have wb := wrap_sgn b0 b1
  by_cases c : sgn a < sgn b
  · rw [if_pos c]
    have c' : decide (sgn a < sgn b) = true := decide_eq_true c
    go_enter Try.func8, Try.ntmps8; go_wp2_with (first | (go_at_call 22; refine (one_true _).mono ?_; rintro e w' ⟨rfl, rfl⟩) | (go_at_call 22; refine (one_false _).mono ?_; rintro e w' ⟨rfl, rfl⟩))
    all_goals (go_ret2; exact ⟨rfl, rfl⟩)
  · rw [if_neg c]
    have c' : decide (sgn a < sgn b) = false := decide_eq_false c
    go_enter Try.func8, Try.ntmps8; go_wp2_with (first | (go_at_call 22; refine (one_true _).mono ?_; rintro e w' ⟨rfl, rfl⟩) | (go_at_call 22; refine (one_false _).mono ?_; rintro e w' ⟨rfl, rfl⟩))
    all_goals (go_ret2; exact ⟨rfl, rfl⟩)
theorem do_sltu (a b : Int) (a0 : 0 ≤ a) (a1 : a < 4294967296) (b0 : 0 ≤ b) (b1 : b < 4294967296) : DoIs 10 a b (if a < b then 1 else 0) := by
  constructor
  intro w
  by_cases c : a < b
  · rw [if_pos c]
    have c' : decide (a < b) = true := decide_eq_true c
    go_enter Try.func8, Try.ntmps8; go_wp2_with (first | (go_at_call 22; refine (one_true _).mono ?_; rintro e w' ⟨rfl, rfl⟩) | (go_at_call 22; refine (one_false _).mono ?_; rintro e w' ⟨rfl, rfl⟩))
    all_goals (go_ret2; exact ⟨rfl, rfl⟩)
  · rw [if_neg c]
    have c' : decide (a < b) = false := decide_eq_false c
    go_enter Try.func8, Try.ntmps8; go_wp2_with (first | (go_at_call 22; refine (one_true _).mono ?_; rintro e w' ⟨rfl, rfl⟩) | (go_at_call 22; refine (one_false _).mono ?_; rintro e w' ⟨rfl, rfl⟩))
    all_goals (go_ret2; exact ⟨rfl, rfl⟩)
theorem do_min (a b : Int) (a0 : 0 ≤ a) (a1 : a < 4294967296) (b0 : 0 ≤ b) (b1 : b < 4294967296) : DoIs 18 a b (if sgn b < sgn a then b else a) := by
  constructor
  intro w
  have wa := wrap_sgn a0 a1
  have wb := wrap_sgn b0 b1
  have sa := sgn_mod a0 a1
  have sb := sgn_mod b0 b1
  go_enter Try.func8, Try.ntmps8
  go_wp2
  all_goals (go_ret2; exact ⟨rfl, rfl⟩)
theorem do_max (a b : Int) (a0 : 0 ≤ a) (a1 : a < 4294967296) (b0 : 0 ≤ b) (b1 : b < 4294967296) : DoIs 19 a b (if sgn a < sgn b then b else a) := by
  constructor
  intro w
  have wa := wrap_sgn a0 a1
  have wb := wrap_sgn b0 b1
  have sa := sgn_mod a0 a1
  have sb := sgn_mod b0 b1
  have e : (if sgn a < sgn b then b else a) = (if sgn b ≤ sgn a then a else b) := by
    by_cases c : sgn a < sgn b
    · rw [if_pos c, if_neg (by omega)]
    · rw [if_neg c, if_pos (by omega)]
  rw [e]
  clear e
  go_enter Try.func8, Try.ntmps8
  go_wp2
  all_goals (go_ret2; exact ⟨rfl, rfl⟩)
theorem do_add (a b : Int) (a0 : 0 ≤ a) (a1 : a < 4294967296) (b0 : 0 ≤ b) (b1 : b < 4294967296) : DoIs 1 a b ((a + b) % 4294967296) := by
  constructor
  intro w
  go_enter Try.func8, Try.ntmps8
  go_wp2
  all_goals (go_ret2; exact ⟨rfl, rfl⟩)
theorem do_addi (a b : Int) (a0 : 0 ≤ a) (a1 : a < 4294967296) (b0 : 0 ≤ b) (b1 : b < 4294967296) : DoIs 25 a b ((a + b) % 4294967296) := by
  constructor
  intro w
  go_enter Try.func8, Try.ntmps8
  go_wp2
  all_goals (go_ret2; exact ⟨rfl, rfl⟩)
theorem do_sub (a b : Int) (a0 : 0 ≤ a) (a1 : a < 4294967296) (b0 : 0 ≤ b) (b1 : b < 4294967296) : DoIs 2 a b ((a - b) % 4294967296) := by
  constructor
  intro w
  go_enter Try.func8, Try.ntmps8
  go_wp2
  all_goals (go_ret2; exact ⟨rfl, rfl⟩)

structure TakenIs (op a b : Int) (t : Bool) : Prop where
  out : ∀ w, Calls Try.prog 10 #[.int .i64 op, .int .u32 a, .int .u32 b] w fun e w' => e = .returned (.bool t) ∧ w = w'
theorem taken_43 (a b : Int) (a0 : 0 ≤ a) (a1 : a < 4294967296) (b0 : 0 ≤ b) (b1 : b < 4294967296) : TakenIs 43 a b (a == b) := by
  constructor; intro w; have wa := wrap_sgn a0 a1; have wb := wrap_sgn b0 b1; go_enter Try.func10, Try.ntmps10; go_wp2; all_goals (go_ret; exact ⟨rfl, rfl⟩)
theorem taken_44 (a b : Int) (a0 : 0 ≤ a) (a1 : a < 4294967296) (b0 : 0 ≤ b) (b1 : b < 4294967296) : TakenIs 44 a b (!(a == b)) := by
  constructor; intro w; have wa := wrap_sgn a0 a1; have wb := wrap_sgn b0 b1; go_enter Try.func10, Try.ntmps10; go_wp2; all_goals (go_ret; exact ⟨rfl, rfl⟩)
theorem taken_45 (a b : Int) (a0 : 0 ≤ a) (a1 : a < 4294967296) (b0 : 0 ≤ b) (b1 : b < 4294967296) : TakenIs 45 a b (decide (sgn a < sgn b)) := by
  constructor; intro w; have wa := wrap_sgn a0 a1; have wb := wrap_sgn b0 b1; go_enter Try.func10, Try.ntmps10; go_wp2; all_goals (go_ret; exact ⟨rfl, rfl⟩)
theorem taken_46 (a b : Int) (a0 : 0 ≤ a) (a1 : a < 4294967296) (b0 : 0 ≤ b) (b1 : b < 4294967296) : TakenIs 46 a b (decide (sgn b ≤ sgn a)) := by
  constructor; intro w; have wa := wrap_sgn a0 a1; have wb := wrap_sgn b0 b1; go_enter Try.func10, Try.ntmps10; go_wp2; all_goals (go_ret; exact ⟨rfl, rfl⟩)
theorem taken_47 (a b : Int) (a0 : 0 ≤ a) (a1 : a < 4294967296) (b0 : 0 ≤ b) (b1 : b < 4294967296) : TakenIs 47 a b (decide (a < b)) := by
  constructor; intro w; have wa := wrap_sgn a0 a1; have wb := wrap_sgn b0 b1; go_enter Try.func10, Try.ntmps10; go_wp2; all_goals (go_ret; exact ⟨rfl, rfl⟩)
theorem taken_48 (a b : Int) (a0 : 0 ≤ a) (a1 : a < 4294967296) (b0 : 0 ≤ b) (b1 : b < 4294967296) : TakenIs 48 a b (decide (b ≤ a)) := by
  constructor; intro w; have wa := wrap_sgn a0 a1; have wb := wrap_sgn b0 b1; go_enter Try.func10, Try.ntmps10; go_wp2; all_goals (go_ret; exact ⟨rfl, rfl⟩)
def LogIs (op a b v : Int) : Prop := ∀ w, Calls Try.prog 24 #[.int .i64 op, .int .u32 a, .int .u32 b] w fun e w' => e = .returned (.tuple #[.int .u32 v, .bool true]) ∧ w = w'

def shlZ (a b : Int) : Int := a * 2 ^ (b % 32).toNat % 4294967296
def shrZ (a b : Int) : Int := a / 2 ^ (b % 32).toNat
def sraZ (a b : Int) : Int := sgn a / 2 ^ (b % 32).toNat % 4294967296
theorem logic_3 (a b : Int) (a0 : 0 ≤ a) (a1 : a < 4294967296) (b0 : 0 ≤ b) (b1 : b < 4294967296) : LogIs 3 a b (bits .and .u32 a b) := by
  intro w
  go_enter Try.func24, Try.ntmps24; go_wp2_with (go_at_call 31; refine (low_any _ _ (by omega) (by omega)).mono ?_; rintro e w' ⟨rfl, rfl⟩)
  all_goals (go_ret2; exact ⟨rfl, rfl⟩)
theorem do_3 (a b : Int) (a0 : 0 ≤ a) (a1 : a < 4294967296) (b0 : 0 ≤ b) (b1 : b < 4294967296) : DoIs 3 a b (bits .and .u32 a b) := by
  constructor
  intro w
  go_enter Try.func8, Try.ntmps8
  go_wp2_with (go_at_call 24; refine (logic_3 _ _ a0 a1 b0 b1 _).mono ?_; rintro e w' ⟨rfl, rfl⟩)
  all_goals (go_ret2; exact ⟨rfl, rfl⟩)
theorem logic_26 (a b : Int) (a0 : 0 ≤ a) (a1 : a < 4294967296) (b0 : 0 ≤ b) (b1 : b < 4294967296) : LogIs 26 a b (bits .and .u32 a b) := by
  intro w
  go_enter Try.func24, Try.ntmps24; go_wp2_with (go_at_call 31; refine (low_any _ _ (by omega) (by omega)).mono ?_; rintro e w' ⟨rfl, rfl⟩)
  all_goals (go_ret2; exact ⟨rfl, rfl⟩)
theorem do_26 (a b : Int) (a0 : 0 ≤ a) (a1 : a < 4294967296) (b0 : 0 ≤ b) (b1 : b < 4294967296) : DoIs 26 a b (bits .and .u32 a b) := by
  constructor
  intro w
  go_enter Try.func8, Try.ntmps8
  go_wp2_with (go_at_call 24; refine (logic_26 _ _ a0 a1 b0 b1 _).mono ?_; rintro e w' ⟨rfl, rfl⟩)
  all_goals (go_ret2; exact ⟨rfl, rfl⟩)
theorem logic_4 (a b : Int) (a0 : 0 ≤ a) (a1 : a < 4294967296) (b0 : 0 ≤ b) (b1 : b < 4294967296) : LogIs 4 a b (bits .or .u32 a b) := by
  intro w
  go_enter Try.func24, Try.ntmps24; go_wp2_with (go_at_call 31; refine (low_any _ _ (by omega) (by omega)).mono ?_; rintro e w' ⟨rfl, rfl⟩)
  all_goals (go_ret2; exact ⟨rfl, rfl⟩)
theorem do_4 (a b : Int) (a0 : 0 ≤ a) (a1 : a < 4294967296) (b0 : 0 ≤ b) (b1 : b < 4294967296) : DoIs 4 a b (bits .or .u32 a b) := by
  constructor
  intro w
  go_enter Try.func8, Try.ntmps8
  go_wp2_with (go_at_call 24; refine (logic_4 _ _ a0 a1 b0 b1 _).mono ?_; rintro e w' ⟨rfl, rfl⟩)
  all_goals (go_ret2; exact ⟨rfl, rfl⟩)
theorem logic_27 (a b : Int) (a0 : 0 ≤ a) (a1 : a < 4294967296) (b0 : 0 ≤ b) (b1 : b < 4294967296) : LogIs 27 a b (bits .or .u32 a b) := by
  intro w
  go_enter Try.func24, Try.ntmps24; go_wp2_with (go_at_call 31; refine (low_any _ _ (by omega) (by omega)).mono ?_; rintro e w' ⟨rfl, rfl⟩)
  all_goals (go_ret2; exact ⟨rfl, rfl⟩)
theorem do_27 (a b : Int) (a0 : 0 ≤ a) (a1 : a < 4294967296) (b0 : 0 ≤ b) (b1 : b < 4294967296) : DoIs 27 a b (bits .or .u32 a b) := by
  constructor
  intro w
  go_enter Try.func8, Try.ntmps8
  go_wp2_with (go_at_call 24; refine (logic_27 _ _ a0 a1 b0 b1 _).mono ?_; rintro e w' ⟨rfl, rfl⟩)
  all_goals (go_ret2; exact ⟨rfl, rfl⟩)
theorem logic_5 (a b : Int) (a0 : 0 ≤ a) (a1 : a < 4294967296) (b0 : 0 ≤ b) (b1 : b < 4294967296) : LogIs 5 a b (bits .xor .u32 a b) := by
  intro w
  go_enter Try.func24, Try.ntmps24; go_wp2_with (go_at_call 31; refine (low_any _ _ (by omega) (by omega)).mono ?_; rintro e w' ⟨rfl, rfl⟩)
  all_goals (go_ret2; exact ⟨rfl, rfl⟩)
theorem do_5 (a b : Int) (a0 : 0 ≤ a) (a1 : a < 4294967296) (b0 : 0 ≤ b) (b1 : b < 4294967296) : DoIs 5 a b (bits .xor .u32 a b) := by
  constructor
  intro w
  go_enter Try.func8, Try.ntmps8
  go_wp2_with (go_at_call 24; refine (logic_5 _ _ a0 a1 b0 b1 _).mono ?_; rintro e w' ⟨rfl, rfl⟩)
  all_goals (go_ret2; exact ⟨rfl, rfl⟩)
theorem logic_28 (a b : Int) (a0 : 0 ≤ a) (a1 : a < 4294967296) (b0 : 0 ≤ b) (b1 : b < 4294967296) : LogIs 28 a b (bits .xor .u32 a b) := by
  intro w
  go_enter Try.func24, Try.ntmps24; go_wp2_with (go_at_call 31; refine (low_any _ _ (by omega) (by omega)).mono ?_; rintro e w' ⟨rfl, rfl⟩)
  all_goals (go_ret2; exact ⟨rfl, rfl⟩)
theorem do_28 (a b : Int) (a0 : 0 ≤ a) (a1 : a < 4294967296) (b0 : 0 ≤ b) (b1 : b < 4294967296) : DoIs 28 a b (bits .xor .u32 a b) := by
  constructor
  intro w
  go_enter Try.func8, Try.ntmps8
  go_wp2_with (go_at_call 24; refine (logic_28 _ _ a0 a1 b0 b1 _).mono ?_; rintro e w' ⟨rfl, rfl⟩)
  all_goals (go_ret2; exact ⟨rfl, rfl⟩)
theorem logic_6 (a b : Int) (a0 : 0 ≤ a) (a1 : a < 4294967296) (b0 : 0 ≤ b) (b1 : b < 4294967296) : LogIs 6 a b (shlZ a b) := by
  intro w
  go_enter Try.func24, Try.ntmps24; go_wp2_with (go_at_call 31; refine (low_any _ _ (by omega) (by omega)).mono ?_; rintro e w' ⟨rfl, rfl⟩)
  all_goals (go_ret2; exact ⟨rfl, rfl⟩)
theorem do_6 (a b : Int) (a0 : 0 ≤ a) (a1 : a < 4294967296) (b0 : 0 ≤ b) (b1 : b < 4294967296) : DoIs 6 a b (shlZ a b) := by
  constructor
  intro w
  go_enter Try.func8, Try.ntmps8
  go_wp2_with (go_at_call 24; refine (logic_6 _ _ a0 a1 b0 b1 _).mono ?_; rintro e w' ⟨rfl, rfl⟩)
  all_goals (go_ret2; exact ⟨rfl, rfl⟩)
theorem logic_30 (a b : Int) (a0 : 0 ≤ a) (a1 : a < 4294967296) (b0 : 0 ≤ b) (b1 : b < 4294967296) : LogIs 30 a b (shlZ a b) := by
  intro w
  go_enter Try.func24, Try.ntmps24; go_wp2_with (go_at_call 31; refine (low_any _ _ (by omega) (by omega)).mono ?_; rintro e w' ⟨rfl, rfl⟩)
  all_goals (go_ret2; exact ⟨rfl, rfl⟩)
theorem do_30 (a b : Int) (a0 : 0 ≤ a) (a1 : a < 4294967296) (b0 : 0 ≤ b) (b1 : b < 4294967296) : DoIs 30 a b (shlZ a b) := by
  constructor
  intro w
  go_enter Try.func8, Try.ntmps8
  go_wp2_with (go_at_call 24; refine (logic_30 _ _ a0 a1 b0 b1 _).mono ?_; rintro e w' ⟨rfl, rfl⟩)
  all_goals (go_ret2; exact ⟨rfl, rfl⟩)
theorem logic_7 (a b : Int) (a0 : 0 ≤ a) (a1 : a < 4294967296) (b0 : 0 ≤ b) (b1 : b < 4294967296) : LogIs 7 a b (shrZ a b) := by
  intro w
  go_enter Try.func24, Try.ntmps24; go_wp2_with (go_at_call 31; refine (low_any _ _ (by omega) (by omega)).mono ?_; rintro e w' ⟨rfl, rfl⟩)
  all_goals (go_ret2; exact ⟨rfl, rfl⟩)
theorem do_7 (a b : Int) (a0 : 0 ≤ a) (a1 : a < 4294967296) (b0 : 0 ≤ b) (b1 : b < 4294967296) : DoIs 7 a b (shrZ a b) := by
  constructor
  intro w
  go_enter Try.func8, Try.ntmps8
  go_wp2_with (go_at_call 24; refine (logic_7 _ _ a0 a1 b0 b1 _).mono ?_; rintro e w' ⟨rfl, rfl⟩)
  all_goals (go_ret2; exact ⟨rfl, rfl⟩)
theorem logic_31 (a b : Int) (a0 : 0 ≤ a) (a1 : a < 4294967296) (b0 : 0 ≤ b) (b1 : b < 4294967296) : LogIs 31 a b (shrZ a b) := by
  intro w
  go_enter Try.func24, Try.ntmps24; go_wp2_with (go_at_call 31; refine (low_any _ _ (by omega) (by omega)).mono ?_; rintro e w' ⟨rfl, rfl⟩)
  all_goals (go_ret2; exact ⟨rfl, rfl⟩)
theorem do_31 (a b : Int) (a0 : 0 ≤ a) (a1 : a < 4294967296) (b0 : 0 ≤ b) (b1 : b < 4294967296) : DoIs 31 a b (shrZ a b) := by
  constructor
  intro w
  go_enter Try.func8, Try.ntmps8
  go_wp2_with (go_at_call 24; refine (logic_31 _ _ a0 a1 b0 b1 _).mono ?_; rintro e w' ⟨rfl, rfl⟩)
  all_goals (go_ret2; exact ⟨rfl, rfl⟩)
theorem logic_8 (a b : Int) (a0 : 0 ≤ a) (a1 : a < 4294967296) (b0 : 0 ≤ b) (b1 : b < 4294967296) : LogIs 8 a b (sraZ a b) := by
  intro w
  have wa := wrap_sgn a0 a1
  go_enter Try.func24, Try.ntmps24; go_wp2_with (go_at_call 31; refine (low_any _ _ (by omega) (by omega)).mono ?_; rintro e w' ⟨rfl, rfl⟩)
  all_goals (go_ret2; exact ⟨rfl, rfl⟩)
theorem do_8 (a b : Int) (a0 : 0 ≤ a) (a1 : a < 4294967296) (b0 : 0 ≤ b) (b1 : b < 4294967296) : DoIs 8 a b (sraZ a b) := by
  constructor
  intro w
  go_enter Try.func8, Try.ntmps8
  go_wp2_with (go_at_call 24; refine (logic_8 _ _ a0 a1 b0 b1 _).mono ?_; rintro e w' ⟨rfl, rfl⟩)
  all_goals (go_ret2; exact ⟨rfl, rfl⟩)
theorem logic_32 (a b : Int) (a0 : 0 ≤ a) (a1 : a < 4294967296) (b0 : 0 ≤ b) (b1 : b < 4294967296) : LogIs 32 a b (sraZ a b) := by
  intro w
  have wa := wrap_sgn a0 a1
  go_enter Try.func24, Try.ntmps24; go_wp2_with (go_at_call 31; refine (low_any _ _ (by omega) (by omega)).mono ?_; rintro e w' ⟨rfl, rfl⟩)
  all_goals (go_ret2; exact ⟨rfl, rfl⟩)
theorem do_32 (a b : Int) (a0 : 0 ≤ a) (a1 : a < 4294967296) (b0 : 0 ≤ b) (b1 : b < 4294967296) : DoIs 32 a b (sraZ a b) := by
  constructor
  intro w
  go_enter Try.func8, Try.ntmps8
  go_wp2_with (go_at_call 24; refine (logic_32 _ _ a0 a1 b0 b1 _).mono ?_; rintro e w' ⟨rfl, rfl⟩)
  all_goals (go_ret2; exact ⟨rfl, rfl⟩)

theorem logic_11 (w : World) : Calls Try.prog 24 #[.int .i64 11, .int .u32 2, .int .u32 3] w fun e w' => e = .returned (.tuple #[.int .u32 0, .bool false]) ∧ w = w' := by
  go_enter Try.func24, Try.ntmps24
  go_wp2
  go_ret2
  exact ⟨rfl, rfl⟩
theorem do_11 : DoTo 11 2 3 0 false := by
  constructor
  intro w
  go_enter Try.func8, Try.ntmps8
  go_wp2_with (go_at_call 24; refine (logic_11 _).mono ?_; rintro e w' ⟨rfl, rfl⟩)
  go_ret2
  exact ⟨rfl, rfl⟩
theorem dov_any {op a b v : Int} {t : Bool} (h : DoTo op a b v t) (w : World) : Calls Try.prog 13 #[.int .i64 op, .int .u32 a, .int .u32 b] w fun e w' => e = .returned (.int .u32 v) ∧ w = w' := by
  go_enter Try.func13, Try.ntmps13
  go_wp2_with (go_at_call 8; refine (h.out _).mono ?_; rintro e w' ⟨rfl, rfl⟩)
  go_ret
  exact ⟨rfl, rfl⟩
theorem pow_step (n : Int) (k : Nat) : n / 2 ^ k / 2 = n / 2 ^ (k + 1) := by
  rw [Int.pow_succ, Int.ediv_ediv_of_nonneg (Int.pow_nonneg (by decide))]
theorem pow_nn {n : Int} (h : 0 ≤ n) (k : Nat) : 0 ≤ n / 2 ^ k := Int.ediv_nonneg h (Int.pow_nonneg (by decide))
/-- So many halvings bring a number to nought, and no fewer. -/
def SizeIs (a : Int) (j : Nat) : Prop := j ≤ 32 ∧ a / 2 ^ j = 0 ∧ (j = 0 ∨ a / 2 ^ (j - 1) ≠ 0)
theorem ret_int {k : IntKind} {a b : Int} (h : a = b) : Ending.returned (.int k a) = .returned (.int k b) := by rw [h]
theorem pow_32 {a : Int} (a0 : 0 ≤ a) (a1 : a < 4294967296) {j : Nat} (h : 32 ≤ j) : a / 2 ^ j = 0 := by
  apply Int.ediv_eq_zero_of_lt a0
  have : (2 : Int) ^ 32 ≤ 2 ^ j := by
    have := Nat.pow_le_pow_right (n := 2) (by decide) h
    exact_mod_cast this
  have e : (2 : Int) ^ 32 = 4294967296 := by decide
  omega
theorem clz_any (a : Int) (w : World) (a0 : 0 ≤ a) (a1 : a < 4294967296) : Calls Try.prog 16 #[.int .u32 a] w fun e w' => (∃ j : Nat, SizeIs a j ∧ e = .returned (.int .i64 (32 - j))) ∧ w = w' := by
  go_enter Try.func16, Try.ntmps16
  go_wp2
  go_loop [0, 3] (fun x n => ∃ (j : Nat) (X : Int), j ≤ 32 ∧ n = .int .i64 (32 - (j : Int)) ∧ x = .int .u32 X ∧ 0 ≤ X ∧ X < 4294967296 ∧ Hid (X = a / 2 ^ j) ∧ Hid (j = 0 ∨ a / 2 ^ (j - 1) ≠ 0)) (fun _ n => (intOf n).toNat)
  case atStart => exact ⟨0, a, Nat.zero_le _, by go_num, rfl, a0, a1, by show a = a / 2 ^ 0; simp, Or.inl rfl⟩
  case round =>
    obtain ⟨j, X, hj, rfl, rfl, x0, x1, HX, HJ⟩ := hrel
    by_cases hz : X = 0
    · subst hz
      go_wp2
      go_ret
      exact ⟨⟨j, ⟨hj, HX.out.symm, HJ.out⟩, rfl⟩, rfl⟩
    · have z : (X == 0) = false := beq_eq_false_iff_ne.2 hz
      have hlt : j < 32 := by
        by_cases h : j < 32
        · exact h
        · exact absurd (HX.out.trans (pow_32 a0 a1 (by omega))) hz
      have HZ := Lib.hid hz
      clear hz
      go_wp2
      go_round
      case rel => exact ⟨j + 1, X / 2, by omega, by go_num, rfl, by omega, by omega, by show X / 2 = a / 2 ^ (j + 1); rw [HX.out, pow_step], Or.inr (by show a / 2 ^ (j + 1 - 1) ≠ 0; rw [Nat.add_sub_cancel, ← HX.out]; exact HZ.out)⟩
      case measure => simp [intOf]; omega
theorem size_one {j : Nat} (h : SizeIs 1 j) : j = 1 := by
  obtain ⟨h1, h2, h3⟩ := h
  match j, h1, h2, h3 with
  | 0, _, h2, _ => simp at h2
  | 1, _, _, _ => rfl
  | j + 2, _, _, h3 => 
    exfalso
    rcases h3 with h | h
    · omega
    · apply h
      apply Int.ediv_eq_zero_of_lt (by decide)
      have := Nat.pow_le_pow_right (n := 2) (by decide) (show 1 ≤ j + 2 - 1 by omega)
      have h4 : (2 : Int) ^ 1 ≤ 2 ^ (j + 2 - 1) := by exact_mod_cast this
      omega
theorem rev_const (w : World) : Calls Try.prog 15 #[.int .u32 16909060] w fun e w' => e = .returned (.int .u32 67305985) ∧ w = w' := by
  go_enter Try.func15, Try.ntmps15
  go_wp2
  go_ret
  exact ⟨rfl, rfl⟩
theorem clz_one (w : World) : Calls Try.prog 16 #[.int .u32 1] w fun e w' => e = .returned (.int .i64 31) ∧ w = w' := by
  refine (clz_any 1 w (by decide) (by decide)).mono ?_
  rintro e w' ⟨⟨j, h, rfl⟩, rfl⟩
  rw [size_one h]
  exact ⟨rfl, rfl⟩
end Go.Proofs.Yteepcoigihbdoaa.My
