/- Walk over the chapter's examples. -/
import Derived.Test.YteepcoigihbdoaaAluWalks
namespace Go.Proofs.Yteepcoigihbdoaa.My
open Go.RowKit
theorem do_of {op a b v : Int} {t : Bool} (h : DoTo op a b v t) (w : World) : Calls Try.prog 8 #[.int .i64 op, .int .u32 a, .int .u32 b] w fun e w' => e = .returned (.tuple #[.int .u32 v, .bool t]) ∧ w = w' := h.out w
theorem taken_of {op a b : Int} {t : Bool} (h : TakenIs op a b t) (w : World) : Calls Try.prog 10 #[.int .i64 op, .int .u32 a, .int .u32 b] w fun e w' => e = .returned (.bool t) ∧ w = w' := h.out w
set_option maxHeartbeats 400000 in
theorem awake_any (w : World) : Calls Try.prog 12 #[] w fun e w' => e = .returned (.bool true) ∧ w = w' := by
  have h : sraZ 2147483648 33 = 3221225472 := by decide
  have d1 := do_8 2147483648 33 (by decide) (by decide) (by decide) (by decide)
  rw [h] at d1
  clear h
  have d2 := do_11
  have t1 : TakenIs 44 1 2 true := taken_44 1 2 (by decide) (by decide) (by decide) (by decide)
  go_enter Try.func12, Try.ntmps12
  go_wp2_with (first | (go_at_call 8; refine (do_of (by assumption) _).mono ?_; rintro e w' ⟨rfl, rfl⟩) | (go_at_call 16; refine (clz_one _).mono ?_; rintro e w' ⟨rfl, rfl⟩) | (go_at_call 15; refine (rev_const _).mono ?_; rintro e w' ⟨rfl, rfl⟩) | (go_at_call 10; refine (taken_of (by assumption) _).mono ?_; rintro e w' ⟨rfl, rfl⟩))
  go_ret
  exact ⟨rfl, rfl⟩
end Go.Proofs.Yteepcoigihbdoaa.My
