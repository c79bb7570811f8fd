/- The reference's word: of 32 bits. -/
import Derived.Test.YteepcoigihbdoaaAluMore
set_option linter.unusedVariables false
namespace Go.Proofs.Yteepcoigihbdoaa.My
open Go.RowKit
/-- The number of these bits, the lowest first. -/
def wordN : List Int → Int
  | [] => 0
  | b :: r => b + 2 * wordN r
def Bits (xs : List Int) : Prop := ∀ i, 0 ≤ xs.getD i 0 ∧ xs.getD i 0 ≤ 1
theorem wordN_bounds : ∀ (xs : List Int), Bits xs → 0 ≤ wordN xs ∧ wordN xs < 2 ^ xs.length
  | [], _ => by simp [wordN]
  | b :: r, h => by
    have h0 := h 0
    obtain ⟨r0, r1⟩ := wordN_bounds r (fun i => by have := h (i + 1); simpa using this)
    simp at h0
    rw [wordN, List.length_cons, Int.pow_succ]
    omega
theorem bits_drop {xs : List Int} (h : Bits xs) (j : Nat) : Bits (xs.drop j) := fun i => by
  have := h (j + i)
  simpa [List.getD_eq_getElem?_getD, List.getElem?_drop] using this
theorem drop_cons {xs : List Int} {j : Nat} (h : j < xs.length) : xs.drop j = xs.getD j 0 :: xs.drop (j + 1) := by
  rw [List.drop_eq_getElem_cons h, List.getD_eq_getElem?_getD, List.getElem?_eq_getElem h]
  rfl
theorem word_any (xs : List Int) (w : World) (hl : xs.length = 32) (hb : Bits xs) : Calls Try.prog 33 #[.agg (ma .u32 xs)] w fun e w' => e = .returned (.int .u32 (wordN xs)) ∧ Below w.heap.size w w' := by
  have HL := Lib.hid hl
  have HBB := Lib.hid hb
  clear hl hb
  go_enter Try.func33, Try.ntmps33
  go_wp2
  go_loop [3, 4] (fun x i => ∃ (j : Nat) (X : Int), j ≤ 32 ∧ i = .int .i64 ((j : Int) - 1) ∧ x = .int .u32 X ∧ Hid (X = wordN (xs.drop j))) (fun _ i => (intOf i + 1).toNat)
  case atStart => exact ⟨32, 0, by omega, by go_num, rfl, by show (0 : Int) = wordN (xs.drop 32); rw [List.drop_eq_nil_of_le (by rw [HL.out]; exact Nat.le_refl _)]; rfl⟩
  case round =>
    obtain ⟨j, X, hj, rfl, rfl, HX⟩ := hrel
    by_cases hz : j = 0
    · subst hz
      go_wp2
      go_ret
      refine ⟨ret_int ?_, (Below.refl _ _).alloc (Nat.le_refl _) _⟩
      rw [HX.out]
      rfl
    · obtain ⟨i, rfl⟩ : ∃ i, j = i + 1 := ⟨j - 1, by omega⟩
      have hg := ma_get (k := .u32) (xs := xs) (i := i) (by rw [HL.out]; omega)
      obtain ⟨B, hB⟩ : ∃ B, xs.getD i 0 = B := ⟨_, rfl⟩
      obtain ⟨b0, b1⟩ := HBB.out i
      obtain ⟨x0, x1⟩ := wordN_bounds _ (bits_drop HBB.out (i + 1))
      rw [← HX.out] at x0 x1
      rw [hB] at b0 b1 hg
      have x2 : X < 2147483648 := by
        have h1 : (xs.drop (i + 1)).length ≤ 31 := by rw [List.length_drop, HL.out]; omega
        have h2 : (2 : Int) ^ (xs.drop (i + 1)).length ≤ 2 ^ 31 := by
          have := Nat.pow_le_pow_right (n := 2) (by decide) h1
          exact_mod_cast this
        have e : (2 : Int) ^ 31 = 2147483648 := by decide
        omega
      have ei : ((((i + 1 : Nat) : Int)) - 1) = (i : Int) := by omega
      have HB := Lib.hid hB
      clear x1 hB hz
      rw [ei]
      go_wp2
      go_round
      case rel => exact ⟨i, 2 * X + B, by omega, by go_num, by go_num, by show 2 * X + B = wordN (xs.drop i); rw [drop_cons (by rw [HL.out]; omega), wordN, ← HX.out, HB.out]; omega⟩
      case measure => simp [intOf]
end Go.Proofs.Yteepcoigihbdoaa.My
