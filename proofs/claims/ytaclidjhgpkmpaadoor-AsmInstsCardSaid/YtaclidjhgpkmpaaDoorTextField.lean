/- Walk: where a letter's number stands: the program's. -/
import Derived.Test.YtaclidjhgpkmpaaDoorTextFields
import Derived.Test.YtaclidjhgpkmpaaDoorTextRight
set_option linter.unusedVariables false
set_option linter.unusedSimpArgs false
namespace Go.Proofs.YtaclidjhgpkmpaaDoor.My
open Go.RowKit
/-- Where a letter's number stands in an instruction. -/
def slotV (c : Int) : Nat := if c = 100 then 1 else if c = 97 then 2 else if c = 98 then 3 else 4
set_option maxHeartbeats 1000000 in
theorem field_any (g : Nat) (c : Int) (w : World) : Calls Tryd.prog 21 #[.pointer (some ⟨g, 0, none⟩), .int .i32 c] w fun e w' => e = .returned (.pointer (some ⟨g, slotV c, none⟩)) ∧ w = w' := by
  obtain ⟨R, hR⟩ : ∃ R, slotV c = R := ⟨_, rfl⟩
  rw [hR]
  have HR := Lib.hid hR
  clear hR
  go_enter Tryd.func21, Tryd.ntmps21
  go_wp2
  all_goals (go_ret; refine ⟨?_, rfl⟩; rw [← HR.out]; clear HR; (try simp only [beq_iff_eq, beq_eq_false_iff_ne, ne_eq] at *); unfold slotV)
  all_goals (repeat (first | rw [if_pos (by omega)] | rw [if_neg (by omega)]))
  all_goals first | rfl | skip
end Go.Proofs.YtaclidjhgpkmpaaDoor.My
