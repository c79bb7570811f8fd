/- The reference's logic: bit by bit. -/
import Derived.Test.YteepcoigihbdoaaAluFill
set_option linter.unusedVariables false
namespace Go.Proofs.Yteepcoigihbdoaa.My
open Go.RowKit
theorem fill_skip (f : Nat → Int) {j : Nat} (h : f j = 0) : fillF f j = fillF f (j + 1) := by
  unfold fillF
  apply List.map_congr_left
  intro i _
  by_cases h2 : i < j
  · simp [h2, show i < j + 1 by omega]
  · by_cases h3 : i = j
    · subst h3; simp [h]
    · simp [h2, show ¬ i < j + 1 by omega]
def logF (a b least most : Int) (i : Nat) : Int := if least ≤ bitZ a i + bitZ b i ∧ bitZ a i + bitZ b i ≤ most then 1 else 0
theorem logF_bits (a b least most : Int) (i : Nat) : 0 ≤ logF a b least most i ∧ logF a b least most i ≤ 1 := by unfold logF; split <;> omega
theorem rlogic_any (a b least most : Int) (w : World) (a0 : 0 ≤ a) (a1 : a < 4294967296) (b0 : 0 ≤ b) (b1 : b < 4294967296) : Calls Try.prog 25 #[.int .u32 a, .int .u32 b, .int .u32 least, .int .u32 most] w fun e w' => e = .returned (.int .u32 (wordN (fillF (logF a b least most) 32))) ∧ Below w.heap.size w w' := by
  have HB := keepBa (startB w) (.cells #[.int .u32 0, .int .u32 0, .int .u32 0, .int .u32 0, .int .u32 0, .int .u32 0, .int .u32 0, .int .u32 0, .int .u32 0, .int .u32 0, .int .u32 0, .int .u32 0, .int .u32 0, .int .u32 0, .int .u32 0, .int .u32 0, .int .u32 0, .int .u32 0, .int .u32 0, .int .u32 0, .int .u32 0, .int .u32 0, .int .u32 0, .int .u32 0, .int .u32 0, .int .u32 0, .int .u32 0, .int .u32 0, .int .u32 0, .int .u32 0, .int .u32 0, .int .u32 0] 41)
  have HA : Hid ((w.alloc (.cells #[.int .u32 0, .int .u32 0, .int .u32 0, .int .u32 0, .int .u32 0, .int .u32 0, .int .u32 0, .int .u32 0, .int .u32 0, .int .u32 0, .int .u32 0, .int .u32 0, .int .u32 0, .int .u32 0, .int .u32 0, .int .u32 0, .int .u32 0, .int .u32 0, .int .u32 0, .int .u32 0, .int .u32 0, .int .u32 0, .int .u32 0, .int .u32 0, .int .u32 0, .int .u32 0, .int .u32 0, .int .u32 0, .int .u32 0, .int .u32 0, .int .u32 0, .int .u32 0] 41)).heap[w.heap.size]? = some (.cells (ma .u32 (fillF (logF a b least most) 0)) 41 (0, 0))) := (heap_alloc_new _ _).trans (by rw [fill_zero]; rfl)
  go_enter Try.func25, Try.ntmps25
  go_wp2
  go_loopw [10] (fun i wr => ∃ j : Nat, j ≤ 32 ∧ i = .int .i64 j ∧ Hid (wr.heap[w.heap.size]? = some (.cells (ma .u32 (fillF (logF a b least most) j)) 41 (0, 0))) ∧ Hid (Below w.heap.size w wr ∧ w.heap.size ≤ wr.heap.size)) (fun i _ => 32 - (intOf i).toNat)
  case atStart => exact ⟨0, by omega, rfl, HA, HB⟩
  case round =>
    clear HA HB
    obtain ⟨j, hj, rfl, HA, HB⟩ := hrel
    by_cases hlt : j < 32
    · obtain ⟨p0, p1⟩ := bit_bounds a j
      obtain ⟨q0, q1⟩ := bit_bounds b j
      by_cases h1 : least ≤ bitZ a j + bitZ b j
      · by_cases h2 : bitZ a j + bitZ b j ≤ most
        · have ef : Hid ((1 : Int) = logF a b least most j) := Lib.hid (by unfold logF; rw [if_pos ⟨h1, h2⟩])
          go_wp2_with (first | (go_at_call 27; refine (bit_any _ _ _ (by assumption) (by assumption) (by omega)).mono ?_; rintro e w1 ⟨rfl, rfl⟩) | (refine cellStore rfl 22 _ _ rfl w.heap.size j rfl (.int .u32 1) rfl rfl rfl HA.out (by rw [ma_size, fill_len]; omega) infoU32 ?_; intro w4 ha ho; replace HB := keepBo HB (Nat.le_refl _) ho; clear HA; rw [ma_set] at ha; have HA := Lib.hid ha; clear ha ho))
          go_roundw
          case rel => exact ⟨j + 1, by omega, by go_num, by rw [← fill_set _ hlt, ← ef.out]; exact HA, HB⟩
          case measure => simp [intOf]; omega
        · have ef : Hid (logF a b least most j = 0) := Lib.hid (by unfold logF; rw [if_neg (fun h => h2 h.2)])
          go_wp2_with (first | (go_at_call 27; refine (bit_any _ _ _ (by assumption) (by assumption) (by omega)).mono ?_; rintro e w1 ⟨rfl, rfl⟩) | (refine cellStore rfl 22 _ _ rfl w.heap.size j rfl (.int .u32 1) rfl rfl rfl HA.out (by rw [ma_size, fill_len]; omega) infoU32 ?_; intro w4 ha ho; replace HB := keepBo HB (Nat.le_refl _) ho; clear HA; rw [ma_set] at ha; have HA := Lib.hid ha; clear ha ho))
          go_roundw
          case rel => exact ⟨j + 1, by omega, by go_num, by rw [← fill_skip _ ef.out]; exact HA, HB⟩
          case measure => simp [intOf]; omega
      · have ef : Hid (logF a b least most j = 0) := Lib.hid (by unfold logF; rw [if_neg (fun h => h1 h.1)])
        go_wp2_with (first | (go_at_call 27; refine (bit_any _ _ _ (by assumption) (by assumption) (by omega)).mono ?_; rintro e w1 ⟨rfl, rfl⟩) | (refine cellStore rfl 22 _ _ rfl w.heap.size j rfl (.int .u32 1) rfl rfl rfl HA.out (by rw [ma_size, fill_len]; omega) infoU32 ?_; intro w4 ha ho; replace HB := keepBo HB (Nat.le_refl _) ho; clear HA; rw [ma_set] at ha; have HA := Lib.hid ha; clear ha ho))
        go_roundw
        case rel => exact ⟨j + 1, by omega, by go_num, by rw [← fill_skip _ ef.out]; exact HA, HB⟩
        case measure => simp [intOf]; omega
    · obtain rfl : j = 32 := by omega
      go_wp2_with (first | (refine rowLoad rfl 41 _ rfl _ rfl HA.out Try.underlying41 rfl infoU41 ?_) | (go_at_call 33; refine (word_any _ _ (fill_len _ _) (fill_bits (logF_bits _ _ _ _) _)).mono ?_; rintro e w1 ⟨rfl, hb⟩; replace HB := keepB HB hb; clear hb))
      go_ret
      exact ⟨rfl, HB.out.1⟩
end Go.Proofs.Yteepcoigihbdoaa.My
