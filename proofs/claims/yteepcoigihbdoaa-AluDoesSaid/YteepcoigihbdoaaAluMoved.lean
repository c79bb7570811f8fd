/- The reference's moved. -/
import Derived.Test.YteepcoigihbdoaaAluLogic
set_option linter.unusedVariables false
namespace Go.Proofs.Yteepcoigihbdoaa.My
open Go.RowKit
def movF (a s fl : Int) (i : Nat) : Int := if 0 ≤ (i : Int) + s ∧ (i : Int) + s < 32 then bitZ a ((i : Int) + s).toNat else fl
theorem movF_bits (a s : Int) {fl : Int} (f0 : 0 ≤ fl) (f1 : fl ≤ 1) (i : Nat) : 0 ≤ movF a s fl i ∧ movF a s fl i ≤ 1 := by unfold movF; split; exact bit_bounds _ _; omega
theorem moved_any (a s fl : Int) (w : World) (a0 : 0 ≤ a) (a1 : a < 4294967296) (s0 : -32 < s) (s1 : s < 32) (f0 : 0 ≤ fl) (f1 : fl ≤ 1) : Calls Try.prog 26 #[.int .u32 a, .int .i64 s, .int .u32 fl] w fun e w' => e = .returned (.int .u32 (wordN (fillF (movF a s fl) 32))) ∧ Below w.heap.size w w' := by
  have HB := keepBa (startB w) (.cells #[.int .u32 0, .int .u32 0, .int .u32 0, .int .u32 0, .int .u32 0, .int .u32 0, .int .u32 0, .int .u32 0, .int .u32 0, .int .u32 0, .int .u32 0, .int .u32 0, .int .u32 0, .int .u32 0, .int .u32 0, .int .u32 0, .int .u32 0, .int .u32 0, .int .u32 0, .int .u32 0, .int .u32 0, .int .u32 0, .int .u32 0, .int .u32 0, .int .u32 0, .int .u32 0, .int .u32 0, .int .u32 0, .int .u32 0, .int .u32 0, .int .u32 0, .int .u32 0] 41)
  have HA : Hid ((w.alloc (.cells #[.int .u32 0, .int .u32 0, .int .u32 0, .int .u32 0, .int .u32 0, .int .u32 0, .int .u32 0, .int .u32 0, .int .u32 0, .int .u32 0, .int .u32 0, .int .u32 0, .int .u32 0, .int .u32 0, .int .u32 0, .int .u32 0, .int .u32 0, .int .u32 0, .int .u32 0, .int .u32 0, .int .u32 0, .int .u32 0, .int .u32 0, .int .u32 0, .int .u32 0, .int .u32 0, .int .u32 0, .int .u32 0, .int .u32 0, .int .u32 0, .int .u32 0, .int .u32 0] 41)).heap[w.heap.size]? = some (.cells (ma .u32 (fillF (movF a s fl) 0)) 41 (0, 0))) := (heap_alloc_new _ _).trans (by rw [fill_zero]; rfl)
  go_enter Try.func26, Try.ntmps26
  go_wp2
  go_loopw [8] (fun i wr => ∃ j : Nat, j ≤ 32 ∧ i = .int .i64 j ∧ Hid (wr.heap[w.heap.size]? = some (.cells (ma .u32 (fillF (movF a s fl) j)) 41 (0, 0))) ∧ Hid (Below w.heap.size w wr ∧ w.heap.size ≤ wr.heap.size)) (fun i _ => 32 - (intOf i).toNat)
  case atStart => exact ⟨0, by omega, rfl, HA, HB⟩
  case round =>
    clear HA HB
    obtain ⟨j, hj, rfl, HA, HB⟩ := hrel
    by_cases hlt : j < 32
    · by_cases h1 : 0 ≤ (j : Int) + s
      · by_cases h2 : (j : Int) + s < 32
        · obtain ⟨k, hk⟩ := Int.eq_ofNat_of_zero_le h1
          have ef : Hid (bitZ a k = movF a s fl j) := Lib.hid (by unfold movF; rw [if_pos ⟨h1, h2⟩, hk]; rfl)
          go_wp2_with (first | (go_at_call 27; refine (bit_any _ _ _ a0 a1 (by omega)).mono ?_; rintro e w1 ⟨rfl, rfl⟩) | (refine cellStore rfl 22 _ _ rfl w.heap.size j rfl (.int .u32 fl) rfl rfl rfl HA.out (by rw [ma_size, fill_len]; omega) infoU32 ?_; intro w4 ha ho; replace HB := keepBo HB (Nat.le_refl _) ho; clear HA; rw [ma_set] at ha; have HA := Lib.hid ha; clear ha ho) | (refine cellStore rfl 22 _ _ rfl w.heap.size j rfl (.int .u32 (bitZ a k)) rfl rfl rfl HA.out (by rw [ma_size, List.length_set, fill_len]; omega) infoU32 ?_; intro w4 ha ho; replace HB := keepBo HB (Nat.le_refl _) ho; clear HA; rw [ma_set, List.set_set] at ha; have HA := Lib.hid ha; clear ha ho))
          go_roundw
          case rel => exact ⟨j + 1, by omega, by go_num, by rw [← fill_set _ hlt, ← ef.out]; exact HA, HB⟩
          case measure => simp [intOf]; omega
        · have ef : Hid (fl = movF a s fl j) := Lib.hid (by unfold movF; rw [if_neg (fun h => h2 h.2)])
          go_wp2_with (first | (go_at_call 27; refine (bit_any _ _ _ a0 a1 (by omega)).mono ?_; rintro e w1 ⟨rfl, rfl⟩) | (refine cellStore rfl 22 _ _ rfl w.heap.size j rfl (.int .u32 fl) rfl rfl rfl HA.out (by rw [ma_size, fill_len]; omega) infoU32 ?_; intro w4 ha ho; replace HB := keepBo HB (Nat.le_refl _) ho; clear HA; rw [ma_set] at ha; have HA := Lib.hid ha; clear ha ho))
          go_roundw
          case rel => exact ⟨j + 1, by omega, by go_num, by rw [← fill_set _ hlt, ← ef.out]; exact HA, HB⟩
          case measure => simp [intOf]; omega
      · have ef : Hid (fl = movF a s fl j) := Lib.hid (by unfold movF; rw [if_neg (fun h => h1 h.1)])
        go_wp2_with (first | (go_at_call 27; refine (bit_any _ _ _ a0 a1 (by omega)).mono ?_; rintro e w1 ⟨rfl, rfl⟩) | (refine cellStore rfl 22 _ _ rfl w.heap.size j rfl (.int .u32 fl) rfl rfl rfl HA.out (by rw [ma_size, fill_len]; omega) infoU32 ?_; intro w4 ha ho; replace HB := keepBo HB (Nat.le_refl _) ho; clear HA; rw [ma_set] at ha; have HA := Lib.hid ha; clear ha ho))
        go_roundw
        case rel => exact ⟨j + 1, by omega, by go_num, by rw [← fill_set _ hlt, ← ef.out]; exact HA, HB⟩
        case measure => simp [intOf]; omega
    · obtain rfl : j = 32 := by omega
      go_wp2_with (first | (refine rowLoad rfl 41 _ rfl _ rfl HA.out Try.underlying41 rfl infoU41 ?_) | (go_at_call 33; refine (word_any _ _ (fill_len _ _) (fill_bits (movF_bits _ _ f0 f1) _)).mono ?_; rintro e w1 ⟨rfl, hb⟩; replace HB := keepB HB hb; clear hb))
      go_ret
      exact ⟨rfl, HB.out.1⟩
end Go.Proofs.Yteepcoigihbdoaa.My
