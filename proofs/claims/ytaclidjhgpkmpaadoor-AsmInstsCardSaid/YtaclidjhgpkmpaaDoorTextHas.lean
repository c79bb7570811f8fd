/- Walk: which fields an operation has, and what its number may be: the program's. -/
import Derived.Test.YtaclidjhgpkmpaaDoorTextForm
import Derived.Test.YtaclidjhgpkmpaaDoorRowWords
set_option linter.unusedVariables false
set_option linter.unusedSimpArgs false
namespace Go.Proofs.YtaclidjhgpkmpaaDoor.My
open Go.RowKit
/-- The table of fields. -/
def bitsL : List Int := [0, 7, 11, 14, 14, 9, 7, 9, 10, 2, 0, 3]
def hasV (F b : Int) : Bool := bits .and .i64 (bitsL.getD F.toNat 0) b != 0
theorem form_range (op : Int) : 0 ≤ formV op ∧ formV op ≤ 11 := by
  unfold formV
  repeat' split
  all_goals omega
set_option maxHeartbeats 1000000 in
theorem has_any (op b : Int) (w : World) (ht : ∀ i : Nat, i < 12 → w.cell? ⟨0, i, none⟩ = some (.int .i64 (bitsL.getD i 0))) : Calls Tryd.prog 17 #[.int .i64 op, .int .i64 b] w fun e w' => e = .returned (.bool (hasV (formV op) b)) ∧ w = w' := by
  obtain ⟨F, hF⟩ : ∃ F, formV op = F := ⟨_, rfl⟩
  obtain ⟨f1, f2⟩ := form_range op
  rw [hF] at f1 f2 ⊢
  have HF := Lib.hid hF
  clear hF
  obtain ⟨f, rfl⟩ : ∃ f : Nat, F = f := ⟨F.toNat, by omega⟩
  have h0 := ht f (by omega)
  clear ht
  unfold hasV
  rw [Int.toNat_natCast]
  obtain ⟨V, hV⟩ : ∃ V, bitsL.getD f 0 = V := ⟨_, rfl⟩
  rw [hV] at h0 ⊢
  clear hV
  go_enter Tryd.func17, Tryd.ntmps17
  go_wp2_with (go_at_call 20; refine (form_any op _).mono ?_; rw [HF.out]; rintro e w1 ⟨rfl, rfl⟩)
  go_ret
  exact ⟨rfl, rfl⟩
/-- May an operation's number be? -/
def withinV (op n : Int) : Bool :=
  if op = 30 ∨ op = 31 ∨ op = 32 then decide (0 ≤ n ∧ n ≤ 31) else if op = 33 then decide (0 ≤ n ∧ n < 262144) else if op = 49 then decide (-131072 ≤ n ∧ n < 131072) else decide (-8192 ≤ n ∧ n < 8192)
set_option maxHeartbeats 2000000 in
theorem within_any (op n : Int) (w : World) : Calls Tryd.prog 30 #[.int .i64 op, .int .i64 n] w fun e w' => e = .returned (.bool (withinV op n)) ∧ w = w' := by
  obtain ⟨R, hR⟩ : ∃ R, withinV op n = R := ⟨_, rfl⟩
  rw [hR]
  have HR := Lib.hid hR
  clear hR
  go_enter Tryd.func30, Tryd.ntmps30
  go_wp2
  all_goals (go_ret; refine ⟨?_, rfl⟩; rw [← HR.out]; clear HR; (try simp only [beq_iff_eq, beq_eq_false_iff_ne, ne_eq] at *); unfold withinV)
  all_goals (repeat (first | rw [if_pos (by omega)] | rw [if_neg (by omega)]))
  all_goals first | rfl | (simp; done) | (simp; omega) | skip
end Go.Proofs.YtaclidjhgpkmpaaDoor.My
