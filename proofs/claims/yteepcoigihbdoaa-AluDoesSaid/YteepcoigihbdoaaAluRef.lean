/- Walks over the reference of alu: the operations. -/
import Derived.Test.YteepcoigihbdoaaAluMoved
set_option linter.unusedVariables false
namespace Go.Proofs.Yteepcoigihbdoaa.My
open Go.RowKit
theorem signed_any (a : Int) (w : World) (a0 : 0 ≤ a) (a1 : a < 4294967296) : Calls Try.prog 29 #[.int .u32 a] w fun e w' => e = .returned (.int .i64 (sgn a)) ∧ w = w' := by
  by_cases h : 2147483648 ≤ a
  · have e : sgn a = a - 4294967296 := if_pos h
    rw [e]
    clear e
    go_enter Try.func29, Try.ntmps29
    go_wp2
    go_ret
    exact ⟨rfl, rfl⟩
  · have e : sgn a = a := if_neg h
    rw [e]
    clear e
    go_enter Try.func29, Try.ntmps29
    go_wp2
    go_ret
    exact ⟨rfl, rfl⟩
theorem rone_true (w : World) : Calls Try.prog 28 #[.bool true] w fun e w' => e = .returned (.int .u32 1) ∧ w = w' := by
  go_enter Try.func28, Try.ntmps28
  go_wp2
  go_ret
  exact ⟨rfl, rfl⟩
theorem rone_false (w : World) : Calls Try.prog 28 #[.bool false] w fun e w' => e = .returned (.int .u32 0) ∧ w = w' := by
  go_enter Try.func28, Try.ntmps28
  go_wp2
  go_ret
  exact ⟨rfl, rfl⟩
end Go.Proofs.Yteepcoigihbdoaa.My
