/- The laws of digits and of parsing. -/
import Derived.Test.YtfpidpdhheickaaNumAwake
import Derived.BigQuiet
set_option linter.unusedVariables false
namespace Go.Proofs.Ytfpidpdhheickaa.My
open Go.RowKit
theorem digits_any (n u : Int) (w : World) (n0 : -9223372036854775808 ≤ n) (n1 : n ≤ 9223372036854775807) (u0 : 0 ≤ u) (u1 : u < 4294967296) : Calls Try.prog 3 #[.int .i64 n, .int .u32 u] w fun e w' => e = .returned (.bool true) ∧ Below w.heap.size w w' := by
  obtain ⟨U, rfl⟩ := Int.eq_ofNat_of_zero_le u0
  have HB := startB w
  obtain ⟨D, hD⟩ : ∃ D, bs (decL n) = D := ⟨_, rfl⟩
  obtain ⟨X, hX⟩ : ∃ X, bs (hexL U) = X := ⟨_, rfl⟩
  have e1 : (D.toList == D.toList) = true := beq_self_eq_true _
  have e2 : (X.toList == X.toList) = true := beq_self_eq_true _
  have a1 : ∀ w, Calls Try.prog 9 #[.int .i64 n] w fun e w' => e = .returned (.string D) ∧ Below w.heap.size w w' := fun w => hD ▸ dec_any2 n w n0 n1
  have a2 : ∀ w, Calls Try.prog 10 #[.int .i64 n] w fun e w' => e = .returned (.string D) ∧ Below w.heap.size w w' := fun w => hD ▸ rdec_any n w n0 n1
  have a3 : ∀ w, Calls Try.prog 11 #[.int .u32 U] w fun e w' => e = .returned (.string X) ∧ Below w.heap.size w w' := fun w => hX ▸ hex_any U w (by omega)
  have a4 : ∀ w, Calls Try.prog 12 #[.int .u32 U] w fun e w' => e = .returned (.string X) ∧ Below w.heap.size w w' := fun w => hX ▸ rhexs_any U w (by omega)
  have A1 := Lib.hid a1
  have A2 := Lib.hid a2
  have A3 := Lib.hid a3
  have A4 := Lib.hid a4
  clear a1 a2 a3 a4 hD hX
  go_enter Try.func3, Try.ntmps3
  go_wp2_with (first | (go_at_call 9; refine (A1.out _).mono ?_; rintro e w1 ⟨rfl, hb⟩; replace HB := keepB HB hb; clear hb) | (go_at_call 10; refine (A2.out _).mono ?_; rintro e w1 ⟨rfl, hb⟩; replace HB := keepB HB hb; clear hb) | (go_at_call 11; refine (A3.out _).mono ?_; rintro e w1 ⟨rfl, hb⟩; replace HB := keepB HB hb; clear hb) | (go_at_call 12; refine (A4.out _).mono ?_; rintro e w1 ⟨rfl, hb⟩; replace HB := keepB HB hb; clear hb) | (go_at_call 13; refine (awake_any _).mono ?_; rintro e w1 ⟨rfl, hb⟩; replace HB := keepB HB hb; clear hb))
  go_ret
  exact ⟨rfl, HB.out.1⟩
theorem nparse_any (s : ByteArray) (w : World) (hm : s.size ≤ maxLen) : Calls Try.prog 4 #[.string s] w fun e w' => e = .returned (.bool true) ∧ Below w.heap.size w w' := by
  have HB := startB w
  have hm2 : s.size ≤ 9223372036854775807 := hm
  clear hm
  by_cases h : 100 < s.size
  · go_enter Try.func4, Try.ntmps4
    go_wp2_with (go_at_call 13; refine (awake_any _).mono ?_; rintro e w1 ⟨rfl, hb⟩; replace HB := keepB HB hb; clear hb)
    go_ret
    exact ⟨rfl, HB.out.1⟩
  · obtain ⟨⟨p, q⟩, hP⟩ : ∃ P, parseV s = P := ⟨_, rfl⟩
    have a1 : ∀ w, Calls Try.prog 14 #[.string s] w fun e w' => e = .returned (.tuple #[.int .i64 p, .int .i64 q]) ∧ Below w.heap.size w w' := fun w => by have := parse_any s w hm2; rw [hP] at this; exact this
    have a2 : ∀ w, Calls Try.prog 15 #[.string s] w fun e w' => e = .returned (.tuple #[.int .i64 p, .int .i64 q]) ∧ w = w' := fun w => by have := rparse_any s w hm2; rw [hP] at this; exact this
    have A1 := Lib.hid a1
    have A2 := Lib.hid a2
    have e1 : (p == p) = true := beq_self_eq_true _
    have e2 : (q == q) = true := beq_self_eq_true _
    clear a1 a2 hP
    go_enter Try.func4, Try.ntmps4
    go_wp2_with (first | (go_at_call 14; refine (A1.out _).mono ?_; rintro e w1 ⟨rfl, hb⟩; replace HB := keepB HB hb; clear hb) | (go_at_call 15; refine (A2.out _).mono ?_; rintro e w1 ⟨rfl, rfl⟩) | (go_at_call 13; refine (awake_any _).mono ?_; rintro e w1 ⟨rfl, hb⟩; replace HB := keepB HB hb; clear hb))
    go_ret
    exact ⟨rfl, HB.out.1⟩
end Go.Proofs.Ytfpidpdhheickaa.My
