/- Rotation. -/
import Derived.Test.YteepcoigihbdoaaAluBits
set_option linter.unusedVariables false
namespace Go.Proofs.Yteepcoigihbdoaa.My
open Go.RowKit
def rotS (x : Int) (s : Nat) : Int := x * 2 ^ s % 4294967296 + x / 2 ^ (32 - s)
theorem and31_64 {x : Int} (h0 : 0 ≤ x) (h1 : x < 18446744073709551616) : bits .and .u64 x 31 = x % 32 := by
  have := bits_mask .u64 64 (by decide) (fun n a b => by simp [IntKind.wrap, IntKind.bits, IntKind.signed]; omega) 5 (by decide) x h0 (by simpa using h1)
  simpa using this
theorem rot_join {x : Int} (x0 : 0 ≤ x) (x1 : x < 4294967296) {s : Nat} (hs : s < 32) : bits .or .u32 (x * 2 ^ s % 4294967296) (x / 2 ^ (32 - s)) = rotS x s := by
  have h : (x * 2 ^ s % 4294967296) % 2 ^ s = 0 ∧ x / 2 ^ (32 - s) < 2 ^ s := by
    have h : s = 0 ∨ s = 1 ∨ s = 2 ∨ s = 3 ∨ s = 4 ∨ s = 5 ∨ s = 6 ∨ s = 7 ∨ s = 8 ∨ s = 9 ∨ s = 10 ∨ s = 11 ∨ s = 12 ∨ s = 13 ∨ s = 14 ∨ s = 15 ∨ s = 16 ∨ s = 17 ∨ s = 18 ∨ s = 19 ∨ s = 20 ∨ s = 21 ∨ s = 22 ∨ s = 23 ∨ s = 24 ∨ s = 25 ∨ s = 26 ∨ s = 27 ∨ s = 28 ∨ s = 29 ∨ s = 30 ∨ s = 31 := by omega
    rcases h with rfl | rfl | rfl | rfl | rfl | rfl | rfl | rfl | rfl | rfl | rfl | rfl | rfl | rfl | rfl | rfl | rfl | rfl | rfl | rfl | rfl | rfl | rfl | rfl | rfl | rfl | rfl | rfl | rfl | rfl | rfl | rfl <;> omega
  exact or_32 s (by omega) (by omega) h.1 (by omega) (pow_nn x0 _) h.2 (by have := Int.ediv_le_self (2 ^ (32 - s)) x0; omega)
theorem rl_any (x k : Int) (s : Nat) (w : World) (x0 : 0 ≤ x) (x1 : x < 4294967296) (k0 : 0 ≤ k) (k1 : k < 32) (hs : (s : Int) = (32 - k) % 32) : Calls Try.prog 34 #[.int .u32 x, .int .i64 (-k)] w fun e w' => e = .returned (.int .u32 (rotS x s)) ∧ w = w' := by
  have e1 : bits .and .u64 (-k % 18446744073709551616) 31 = (s : Int) := by rw [and31_64 (by omega) (by omega)]; omega
  have e2 := rot_join x0 x1 (show s < 32 by omega)
  have e3 : ((32 : Int) - (s : Int)).toNat = 32 - s := by omega
  have e4 : (s : Int) < 32 := by omega
  have e5 : IntKind.u64.wrap (-k) = -k % 18446744073709551616 := by simp [IntKind.wrap, IntKind.bits, IntKind.signed]
  clear hs
  go_enter Try.func34, Try.ntmps34
  go_wp2
  go_ret
  exact ⟨rfl, rfl⟩
theorem rot_any (x k : Int) (s : Nat) (w : World) (x0 : 0 ≤ x) (x1 : x < 4294967296) (k0 : 0 ≤ k) (k1 : k < 32) (hs : (s : Int) = (32 - k) % 32) : Calls Try.prog 32 #[.int .u32 x, .int .i64 k] w fun e w' => e = .returned (.int .u32 (rotS x s)) ∧ w = w' := by
  have HS := Lib.hid hs
  clear hs
  have em : k.tmod 32 = k := by rw [Int.tmod_eq_emod_of_nonneg k0]; omega
  go_enter Try.func32, Try.ntmps32
  go_wp2_with (go_at_call 34; refine (rl_any x k s _ x0 x1 k0 k1 HS.out).mono ?_; rintro e w1 ⟨rfl, rfl⟩)
  go_ret
  exact ⟨rfl, rfl⟩
theorem do_20 (a b : Int) (s : Nat) (a0 : 0 ≤ a) (a1 : a < 4294967296) (b0 : 0 ≤ b) (b1 : b < 4294967296) (hs : (s : Int) = (32 - b % 32) % 32) : DoIs 20 a b (rotS a s) := by
  constructor
  intro w
  have hl : ∀ w, Calls Try.prog 24 #[.int .i64 20, .int .u32 a, .int .u32 b] w fun e w' => e = .returned (.tuple #[.int .u32 (rotS a s), .bool true]) ∧ w = w' := by
    intro w
    have HS := Lib.hid hs
    clear hs
    go_enter Try.func24, Try.ntmps24
    go_wp2_with (first | (go_at_call 31; refine (low_any _ _ (by omega) (by omega)).mono ?_; rintro e w' ⟨rfl, rfl⟩) | (go_at_call 32; refine (rot_any a (b % 32) s _ a0 a1 (by omega) (by omega) HS.out).mono ?_; rintro e w1 ⟨rfl, rfl⟩))
    go_ret2
    exact ⟨rfl, rfl⟩
  have HL := Lib.hid hl
  clear hl hs
  go_enter Try.func8, Try.ntmps8
  go_wp2_with (go_at_call 24; refine (HL.out _).mono ?_; rintro e w' ⟨rfl, rfl⟩)
  go_ret2
  exact ⟨rfl, rfl⟩
end Go.Proofs.Yteepcoigihbdoaa.My
