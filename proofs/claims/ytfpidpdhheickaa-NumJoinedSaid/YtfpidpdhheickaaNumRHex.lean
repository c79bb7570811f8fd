/- Walks over the reference: the number behind 0x. -/
import Derived.Test.YtfpidpdhheickaaNumHex
set_option linter.unusedVariables false
namespace Go.Proofs.Ytfpidpdhheickaa.My
open Go.RowKit
theorem rhex_no (s : ByteArray) (w : World) (h : ¬ okX s) (hm : s.size ≤ 9223372036854775807) : Calls Try.prog 24 #[.string s] w fun e w' => e = .returned (.tuple #[.int .i64 0, .bool false]) ∧ w = w' := by
  have eb : ∀ i (h : i < s.size), (s[i]'h).toNat = bAt s i := fun i h => bAt_eq h
  by_cases h1 : s.size < 3
  · clear h
    go_enter Try.func24, Try.ntmps24; go_wp2
    go_ret2
    exact ⟨rfl, rfl⟩
  by_cases h2 : 10 < s.size
  · clear h
    go_enter Try.func24, Try.ntmps24; go_wp2
    go_ret2
    exact ⟨rfl, rfl⟩
  obtain ⟨c0, e0⟩ : ∃ c, bAt s 0 = c := ⟨_, rfl⟩
  obtain ⟨c1, e1⟩ : ∃ c, bAt s 1 = c := ⟨_, rfl⟩
  by_cases q : c0 = 48
  · by_cases r : c1 = 120
    · exact absurd ⟨by omega, by omega, by omega, by omega⟩ h
    · have er : ((c1 : Int) != 120) = true := bne_iff_ne.2 (by omega)
      subst q
      clear h r
      go_enter Try.func24, Try.ntmps24; go_wp2
      go_ret2
      exact ⟨rfl, rfl⟩
  · have er : ((c0 : Int) != 48) = true := bne_iff_ne.2 (by omega)
    clear h q
    go_enter Try.func24, Try.ntmps24; go_wp2
    go_ret2
    exact ⟨rfl, rfl⟩
theorem rhex_yes (s : ByteArray) (w : World) (h : okX s) : Calls Try.prog 24 #[.string s] w fun e w' => e = .returned (.tuple #[.int .i64 (hexR s (s.size - 2) 2 0).1, .bool (hexR s (s.size - 2) 2 0).2]) ∧ w = w' := by
  obtain ⟨h1, h2, q0, q1⟩ := h
  obtain ⟨R, hR⟩ : ∃ R, hexR s (s.size - 2) 2 0 = R := ⟨_, rfl⟩
  rw [hR]
  have HR := Lib.hid hR
  have eb : ∀ i (h : i < s.size), (s[i]'h).toNat = bAt s i := fun i h => bAt_eq h
  clear hR
  go_enter Try.func24, Try.ntmps24; go_wp2
  go_loop [4, 5] (fun n i => ∃ (k : Nat) (N : Int), k ≤ s.size - 2 ∧ n = .int .i64 N ∧ i = .int .i64 (k + 2) ∧ 0 ≤ N ∧ Hid (N < 16 ^ k) ∧ Hid (hexR s (s.size - 2 - k) (k + 2) N = R)) (fun _ i => s.size - (intOf i).toNat)
  case atStart => exact ⟨0, 0, Nat.zero_le _, rfl, rfl, Int.le_refl _, by show (0 : Int) < 16 ^ 0; decide, HR⟩
  case round =>
    clear q0 q1
    obtain ⟨k, N, hkt, rfl, rfl, n0, HN, HX⟩ := hrel
    by_cases hk : k + 2 < s.size
    · obtain ⟨c, hc⟩ : ∃ c, bAt s (k + 2) = c := ⟨_, rfl⟩
      have hx := HX.out
      rw [show s.size - 2 - k = (s.size - 2 - (k + 1)) + 1 by omega, hexR, hc] at hx
      have c1 := bAt_lt s (k + 2)
      rw [hc] at c1
      obtain ⟨v, hv'⟩ : ∃ v, hv c = v := ⟨_, rfl⟩
      have v1 := hv_lt c
      rw [hv'] at hx v1
      have HV := Lib.hid hv'
      clear HX hv'
      have et : ((k : Int) + 2).toNat = k + 2 := by omega
      by_cases hd : v < 0
      · rw [if_pos hd] at hx
        subst hx
        go_wp2_with (go_at_call 28; refine (value_any _ _ _ (by omega) (by omega) HV.out).mono ?_; rintro e w3 ⟨rfl, rfl⟩)
        go_ret2
        exact ⟨rfl, rfl⟩
      · rw [if_neg hd] at hx
        have HX := Lib.hid hx
        have n1 : N < 4294967296 := Int.lt_of_lt_of_le HN.out (pow_16 (by omega))
        clear hx
        go_wp2_with (go_at_call 28; refine (value_any _ _ _ (by omega) (by omega) HV.out).mono ?_; rintro e w3 ⟨rfl, rfl⟩)
        go_round
        case rel => exact ⟨k + 1, 16 * N + v, by omega, by go_num, by go_num, by omega, by show 16 * N + v < 16 ^ (k + 1); rw [Int.pow_succ]; have := HN.out; omega, HX⟩
        case measure => simp [intOf]; omega
    · have hx := HX.out
      rw [show s.size - 2 - k = 0 by omega, hexR] at hx
      subst hx
      go_wp2
      go_ret2
      exact ⟨rfl, rfl⟩
end Go.Proofs.Ytfpidpdhheickaa.My
