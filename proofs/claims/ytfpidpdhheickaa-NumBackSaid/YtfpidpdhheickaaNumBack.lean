/- The law of digits that are parsed back. -/
import Derived.Test.YtfpidpdhheickaaNumBackPlain
import Derived.Test.YtfpidpdhheickaaNumAwake
import Derived.BigQuiet
set_option linter.unusedVariables false
namespace Go.Proofs.Ytfpidpdhheickaa.My
open Go.RowKit
theorem nback_any (n u : Int) (w : World) (n0 : -9223372036854775808 ≤ n) (n1 : n ≤ 9223372036854775807) (u0 : 0 ≤ u) (u1 : u < 4294967296) : Calls Try.prog 6 #[.int .i64 n, .int .u32 u] w fun e w' => e = .returned (.bool true) ∧ Below w.heap.size w w' := by
  obtain ⟨U, rfl⟩ := Int.eq_ofNat_of_zero_le u0
  have HB := startB w
  have hd : (digP n.natAbs).length ≤ 19 := digP_len 19 _ (by decide) (by have h10 : (10 : Nat) ^ 19 = 10000000000000000000 := by decide
                                                                         omega)
  have hdl : (decL n).length ≤ 20 := by
    unfold decL
    split
    · rw [List.length_cons]; omega
    · omega
  obtain ⟨D, hD⟩ : ∃ D, bs (decL n) = D := ⟨_, rfl⟩
  obtain ⟨X, hX⟩ : ∃ X, bs (hexL U) = X := ⟨_, rfl⟩
  obtain ⟨Y, hY⟩ : ∃ Y, (⟨#[48, 120]⟩ : ByteArray) ++ X = Y := ⟨_, rfl⟩
  have hY2 : bs ([48, 120] ++ hexL U) = Y := by rw [← hY, ← hX, ← bs_add]; rfl
  have hxs : X.size = 8 := by rw [← hX, bs_size]; simp [hexL]
  have hys : Y.size = 10 := by rw [← hY2, bs_size]; simp [hexL]
  have a1 : ∀ w, Calls Try.prog 9 #[.int .i64 n] w fun e w' => e = .returned (.string D) ∧ Below w.heap.size w w' := fun w => hD ▸ dec_any2 n w n0 n1
  have a3 : ∀ w, Calls Try.prog 11 #[.int .u32 U] w fun e w' => e = .returned (.string X) ∧ Below w.heap.size w w' := fun w => hX ▸ hex_any U w (by omega)
  have a2 : ∀ w, Calls Try.prog 14 #[.string D] w fun e w' => e = .returned (.tuple #[.int .i64 n, .int .i64 0]) ∧ Below w.heap.size w w' := fun w => by
    have h := parse_any D w (by rw [← hD, bs_size]; omega)
    rw [show parseV D = (n, 0) by rw [← hD]; exact parse_decL n n0 n1] at h
    exact h
  have a4 : ∀ w, Calls Try.prog 14 #[.string Y] w fun e w' => e = .returned (.tuple #[.int .i64 U, .int .i64 0]) ∧ Below w.heap.size w w' := fun w => by
    have h := parse_any Y w (by omega)
    rw [show parseV Y = ((U : Int), 0) by rw [← hY2]; exact parse_hexL U (by omega)] at h
    exact h
  have A1 := Lib.hid a1
  have A2 := Lib.hid a2
  have A3 := Lib.hid a3
  have A4 := Lib.hid a4
  have HY := Lib.hid hY
  have e1 : (n == n) = true := beq_self_eq_true _
  have e2 : ((U : Int) == (U : Int)) = true := beq_self_eq_true _
  clear a1 a2 a3 a4 hD hX hY hY2 hys hd hdl
  go_enter Try.func6, Try.ntmps6
  go_wp2_with (first | (go_at_call 9; refine (A1.out _).mono ?_; rintro e w1 ⟨rfl, hb⟩; replace HB := keepB HB hb; clear hb) | (go_at_call 14; refine (A2.out _).mono ?_; clear A2; rintro e w1 ⟨rfl, hb⟩; replace HB := keepB HB hb; clear hb) | (go_at_call 14; refine (A4.out _).mono ?_; rintro e w1 ⟨rfl, hb⟩; replace HB := keepB HB hb; clear hb) | (go_at_call 11; refine (A3.out _).mono ?_; rintro e w1 ⟨rfl, hb⟩; replace HB := keepB HB hb; clear hb) | (refine strAdd rfl _ _ _ _ rfl ⟨#[48, 120]⟩ X Y rfl rfl (by rw [hxs, show (⟨#[48, 120]⟩ : ByteArray).size = 2 from rfl]; omega) HY.out ?_) | (go_at_call 13; refine (awake_any _).mono ?_; rintro e w1 ⟨rfl, hb⟩; replace HB := keepB HB hb; clear hb))
  go_ret
  exact ⟨rfl, HB.out.1⟩
end Go.Proofs.Ytfpidpdhheickaa.My
