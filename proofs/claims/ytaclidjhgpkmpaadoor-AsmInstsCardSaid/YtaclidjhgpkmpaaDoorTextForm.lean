/- Walk: an operation's form: the program's and the reference's. -/
import Derived.Test.YtaclidjhgpkmpaaDoorRegWords
set_option linter.unusedVariables false
set_option linter.unusedSimpArgs false
namespace Go.Proofs.YtaclidjhgpkmpaaDoor.My
open Go.RowKit
/-- An operation's form. -/
def formV (op : Int) : Int :=
  if op < 1 ∨ 63 < op then 0 else if 21 ≤ op ∧ op ≤ 23 then 11 else if op ≤ 24 then 1 else if op = 33 ∨ op = 49 then 5 else if op ≤ 39 ∨ op = 50 then 2 else if op ≤ 42 then 3 else if op ≤ 48 then 4 else if op ≤ 53 then 6 else if op = 56 then 7 else if op = 57 then 8 else if op = 60 ∨ op = 62 then 9 else 10
set_option maxHeartbeats 2000000 in
theorem form_any (op : Int) (w : World) : Calls Tryd.prog 20 #[.int .i64 op] w fun e w' => e = .returned (.int .i64 (formV op)) ∧ w = w' := by
  obtain ⟨R, hR⟩ : ∃ R, formV op = R := ⟨_, rfl⟩
  rw [hR]
  have HR := Lib.hid hR
  clear hR
  go_enter Tryd.func20, Tryd.ntmps20
  go_wp2
  all_goals (go_ret; refine ⟨?_, rfl⟩; rw [← HR.out]; clear HR; (try simp only [beq_iff_eq, beq_eq_false_iff_ne, ne_eq] at *); unfold formV)
  all_goals (repeat (first | rw [if_pos (by omega)] | rw [if_neg (by omega)]))
  all_goals first | rfl | skip
end Go.Proofs.YtaclidjhgpkmpaaDoor.My
