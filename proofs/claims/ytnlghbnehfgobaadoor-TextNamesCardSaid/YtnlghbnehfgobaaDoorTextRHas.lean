/- Walk: which fields an instruction has, and what they may be: the reference's. -/
import Derived.Test.YtnlghbnehfgobaaDoorTextHas
set_option linter.unusedVariables false
set_option linter.unusedSimpArgs false
namespace Go.Proofs.YtnlghbnehfgobaaDoor.My
open Go.RowKit
def regV (h : Bool) (n : Int) : Bool := decide (n = 0) || (h && decide (0 < n) && decide (n < 16))
set_option maxHeartbeats 2000000 in
theorem reg_any (h : Bool) (n : Int) (w : World) : Calls Tryd.prog 32 #[.bool h, .int .i64 n] w fun e w' => e = .returned (.bool (regV h n)) ∧ w = w' := by
  unfold regV
  by_cases q1 : n = 0
  · subst q1
    go_enter Tryd.func32, Tryd.ntmps32
    go_wp2
    go_ret
    exact ⟨by simp, rfl⟩
  have g1 : (n == 0) = false := beq_eq_false_iff_ne.2 q1
  cases h with
  | false =>
    go_enter Tryd.func32, Tryd.ntmps32
    go_wp2
    go_ret
    exact ⟨by simp [q1], rfl⟩
  | true =>
    by_cases q2 : 0 < n
    · have g2 : decide (0 < n) = true := decide_eq_true q2
      by_cases q3 : n < 16
      · have g3 : decide (n < 16) = true := decide_eq_true q3
        go_enter Tryd.func32, Tryd.ntmps32
        go_wp2
        go_ret
        exact ⟨by simp [q1, q2, q3], rfl⟩
      · have g3 : decide (n < 16) = false := decide_eq_false q3
        go_enter Tryd.func32, Tryd.ntmps32
        go_wp2
        go_ret
        exact ⟨by simp [q1, q3], rfl⟩
    · have g2 : decide (0 < n) = false := decide_eq_false q2
      go_enter Tryd.func32, Tryd.ntmps32
      go_wp2
      go_ret
      exact ⟨by simp [q1, q2], rfl⟩
set_option maxHeartbeats 2000000 in
theorem imm_any (op n : Int) (w : World) : Calls Tryd.prog 34 #[.int .i64 op, .int .i64 n] w fun e w' => e = .returned (.bool (withinV op n)) ∧ w = w' := by
  obtain ⟨R, hR⟩ : ∃ R, withinV op n = R := ⟨_, rfl⟩
  rw [hR]
  have HR := Lib.hid hR
  clear hR
  go_enter Tryd.func34, Tryd.ntmps34
  go_wp2
  all_goals (go_ret; refine ⟨?_, rfl⟩; rw [← HR.out]; clear HR; (try simp only [beq_iff_eq, beq_eq_false_iff_ne, ne_eq] at *); unfold withinV)
  all_goals (repeat (first | rw [if_pos (by omega)] | rw [if_neg (by omega)]))
  all_goals first | rfl | (simp; done) | (refine congrArg (fun b => Ending.returned (Value.bool b)) (decide_eq_decide.2 ?_); omega) | (simp; omega) | skip
/-- The bit of a field's number. -/
def bitV (k : Nat) : Int := if k = 1 then 1 else if k = 2 then 2 else if k = 3 then 4 else 8
set_option maxRecDepth 100000 in
set_option maxHeartbeats 16000000 in
theorem rhas_any (f k : Nat) (w : World) (hf : f ≤ 11) (h1 : 1 ≤ k) (h2 : k ≤ 4) : Calls Tryd.prog 33 #[.int .i64 (f : Nat), .int .i64 (k : Nat)] w fun e w' => e = .returned (.bool (hasV f (bitV k))) ∧ w = w' := by
  rcases (show k = 1 ∨ k = 2 ∨ k = 3 ∨ k = 4 by omega) with rfl | rfl | rfl | rfl
  all_goals
    clear h1 h2
    rcases (show f = 0 ∨ f = 1 ∨ f = 2 ∨ f = 3 ∨ f = 4 ∨ f = 5 ∨ f = 6 ∨ f = 7 ∨ f = 8 ∨ f = 9 ∨ f = 10 ∨ f = 11 by omega) with rfl | rfl | rfl | rfl | rfl | rfl | rfl | rfl | rfl | rfl | rfl | rfl
    all_goals
      clear hf
      go_enter Tryd.func33, Tryd.ntmps33
      go_wp2
      go_ret
      exact ⟨by first | rfl | (congr 2; decide +kernel), rfl⟩
end Go.Proofs.YtnlghbnehfgobaaDoor.My
