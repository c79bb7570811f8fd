/- Walk: a form's fields: the program's and the reference's. -/
import Derived.Test.YtaclidjhgpkmpaaDoorTextForm
import Derived.Test.YtaclidjhgpkmpaaDoorByteWords
set_option linter.unusedVariables false
set_option linter.unusedSimpArgs false
namespace Go.Proofs.YtaclidjhgpkmpaaDoor.My
open Go.RowKit
/-- A form's fields, a letter each. -/
def fieldsV (f : Int) : List UInt8 :=
  if f = 1 ∨ f = 6 then [100, 97, 98] else if f = 11 then [100, 97] else if f = 2 then [100, 97, 105] else if f = 3 ∨ f = 4 then [97, 98, 105] else if f = 5 ∨ f = 7 then [100, 105] else if f = 8 then [97, 105] else if f = 9 then [97] else []
set_option maxHeartbeats 2000000 in
theorem fields_any (f : Int) (w : World) : Calls Tryd.prog 19 #[.int .i64 f] w fun e w' => e = .returned (.string (bs (fieldsV f))) ∧ w = w' := by
  obtain ⟨R, hR⟩ : ∃ R, fieldsV f = R := ⟨_, rfl⟩
  rw [hR]
  have HR := Lib.hid hR
  clear hR
  go_enter Tryd.func19, Tryd.ntmps19
  go_wp2
  all_goals (go_ret; refine ⟨?_, rfl⟩; rw [← HR.out]; clear HR; (try simp only [beq_iff_eq, beq_eq_false_iff_ne, ne_eq] at *); unfold fieldsV)
  all_goals (repeat (first | rw [if_pos (by omega)] | rw [if_neg (by omega)]))
  all_goals first | rfl | skip
end Go.Proofs.YtaclidjhgpkmpaaDoor.My
