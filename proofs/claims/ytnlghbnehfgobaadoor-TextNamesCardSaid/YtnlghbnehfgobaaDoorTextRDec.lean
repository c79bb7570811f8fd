/- Walk over the reference: the decimal digits of any number. -/
import Derived.Test.YtnlghbnehfgobaaDoorTextDec2
set_option linter.unusedVariables false
namespace Go.Proofs.YtnlghbnehfgobaaDoor.My
open Go.RowKit
theorem digP_len : ∀ (k u : Nat), 1 ≤ k → u < 10 ^ k → (digP u).length ≤ k
  | 0, u, h, _ => by omega
  | k + 1, u, _, h => by
    by_cases h9 : u < 10
    · rw [digP_one h9]; simp
    · have hk : 1 ≤ k := by
        rcases Nat.eq_zero_or_pos k with q | q
        · subst q; simp at h; omega
        · exact q
      have := digP_len k (u / 10) hk (Nat.div_lt_of_lt_mul (by rw [← Nat.pow_succ']; exact h))
      rw [digP_more h9, List.length_append]
      simp
      exact this
def digZ (u : Nat) : List UInt8 := if u = 0 then [] else digP u
theorem digZ_step {u : Nat} (h : u ≠ 0) : digZ u = digZ (u / 10) ++ [hd (u % 10)] := by
  unfold digZ
  rw [if_neg h]
  by_cases h9 : u < 10
  · rw [if_pos (by omega), digP_one h9, show u % 10 = u by omega]; rfl
  · rw [if_neg (by omega), digP_more h9]
set_option maxRecDepth 100000 in
set_option maxHeartbeats 2000000 in
theorem rdec_zero (w : World) : Calls Tryd.prog 49 #[.int .i64 0] w fun e w' => e = .returned (.string (bs (decL 0))) ∧ Below w.heap.size w w' := by
  go_enter Tryd.func49, Tryd.ntmps49
  go_wp2
  go_ret
  exact ⟨by rw [show decL 0 = [48] by decide +kernel]; rfl, Below.refl _ _⟩
set_option maxRecDepth 100000 in
set_option maxHeartbeats 2000000 in
theorem rdec_pos (n : Int) (w : World) (U : Nat) (h0 : 1 ≤ U) (h1 : U ≤ 9223372036854775807) (hn : n = (U : Int)) : Calls Tryd.prog 49 #[.int .i64 n] w fun e w' => e = .returned (.string (bs (digP U))) ∧ Below w.heap.size w w' := by
  have hz : (n == 0) = false := beq_eq_false_iff_ne.2 (by omega)
  have hp : 0 < n := by omega
  have ef : -n = -(U : Int) := by omega
  have h2 : (digP U).length ≤ 19 := digP_len 19 U (by omega) (by omega)
  have HB := startB w
  clear hn
  go_enter Tryd.func49, Tryd.ntmps49
  go_wp2
  clear hz ef
  go_loopw [3, 4] (fun o x wr => ∃ (V : Nat) (l : List UInt8), x = .int .i64 (-(V : Int)) ∧ o = .string (bs l) ∧ V ≤ U ∧ l.length ≤ 19 ∧ Hid (digZ V ++ l = digP U) ∧ Hid (Below w.heap.size w wr ∧ w.heap.size ≤ wr.heap.size)) (fun _ x _ => (-(intOf x)).toNat)
  case atStart => exact ⟨U, [], rfl, rfl, Nat.le_refl _, Nat.zero_le _, by show digZ U ++ [] = digP U; rw [List.append_nil]; unfold digZ; rw [if_neg (by omega)], HB⟩
  case round =>
    clear HB
    obtain ⟨V, l, rfl, rfl, vu, hl, HD, HB⟩ := hrel
    by_cases hv : V = 0
    · subst hv
      have HL : Hid (l = digP U) := HD.out
      go_wp2
      go_ret
      exact ⟨by rw [HL.out]; rfl, HB.out.1⟩
    · have em : (-(V : Int)).tmod 10 = -((V : Int) % 10) := by rw [Int.neg_tmod, Int.tmod_eq_emod_of_nonneg (by omega)]
      have eq : (-(V : Int)).tdiv 10 = -((V : Int) / 10) := by rw [Int.neg_tdiv, Int.tdiv_eq_ediv_of_nonneg (by omega)]
      have hvn : (-(V : Int) != 0) = true := bne_iff_ne.2 (by omega)
      have HC : Hid ((#[Value.int .u8 (48 + (V : Int) % 10)])[0 + 0]? = some (.int .u8 ((hd (V % 10)).toNat : Int))) := by
        show some (Value.int .u8 (48 + (V : Int) % 10)) = _
        rw [hd_nat (by omega), if_pos (by omega)]
        congr 2
      have HN : Hid (digZ (V / 10) ++ hd (V % 10) :: l = digP U) := by
        show digZ (V / 10) ++ hd (V % 10) :: l = digP U
        rw [← HD.out, digZ_step hv, List.append_assoc]; rfl
      have hl2 : l.length + 1 ≤ 19 := by
        have h3 := congrArg List.length HN.out
        rw [List.length_append, List.length_cons] at h3
        omega
      have hv1 : 1 ≤ V := by omega
      clear hv
      go_wp2_with (first | (refine strBack rfl _ _ 5 _ rfl Tryd.underlying70 Tryd.underlying5 Tryd.underlying9 _ _ _ _ rfl [hd (V % 10)] rfl (heap_alloc_new _ _) (fun j hj => by obtain rfl : j = 0 := by { simp at hj; omega }; exact HC.out) ?_) | (refine strAdd rfl _ _ _ _ rfl (bs [hd (V % 10)]) (bs l) (bs (hd (V % 10) :: l)) rfl rfl (by rw [bs_size, bs_size]; simp; omega) (bs_add _ _) ?_))
      go_roundw
      case rel => exact ⟨V / 10, hd (V % 10) :: l, rfl, rfl, by omega, by rw [List.length_cons]; omega, HN, keepBa HB _⟩
      case measure => simp [intOf]; omega
set_option maxRecDepth 100000 in
set_option maxHeartbeats 2000000 in
theorem rdec_neg (n : Int) (w : World) (U : Nat) (h0 : 1 ≤ U) (h1 : U ≤ 9223372036854775808) (hn : n = -(U : Int)) : Calls Tryd.prog 49 #[.int .i64 n] w fun e w' => e = .returned (.string (bs (45 :: digP U))) ∧ Below w.heap.size w w' := by
  have hz : (n == 0) = false := beq_eq_false_iff_ne.2 (by omega)
  have hp : n < 0 := by omega
  have HEF : Hid (n = -(U : Int)) := Lib.hid hn
  have h2 : (digP U).length ≤ 19 := digP_len 19 U (by omega) (by omega)
  have HB := startB w
  clear hn
  go_enter Tryd.func49, Tryd.ntmps49
  go_wp2
  clear hz
  go_loopw [3, 4] (fun o x wr => ∃ (V : Nat) (l : List UInt8), x = .int .i64 (-(V : Int)) ∧ o = .string (bs l) ∧ V ≤ U ∧ l.length ≤ 19 ∧ Hid (digZ V ++ l = digP U) ∧ Hid (Below w.heap.size w wr ∧ w.heap.size ≤ wr.heap.size)) (fun _ x _ => (-(intOf x)).toNat)
  case atStart => exact ⟨U, [], congrArg _ HEF.out, rfl, Nat.le_refl _, Nat.zero_le _, by show digZ U ++ [] = digP U; rw [List.append_nil]; unfold digZ; rw [if_neg (by omega)], HB⟩
  case round =>
    clear HB
    obtain ⟨V, l, rfl, rfl, vu, hl, HD, HB⟩ := hrel
    by_cases hv : V = 0
    · subst hv
      have HL : Hid (l = digP U) := HD.out
      go_wp2_with (refine strAdd rfl _ _ _ _ rfl (bs [45]) (bs l) (bs (45 :: l)) rfl rfl (by rw [bs_size, bs_size]; simp; omega) (bs_add _ _) ?_)
      go_ret
      exact ⟨by rw [HL.out]; rfl, HB.out.1⟩
    · have em : (-(V : Int)).tmod 10 = -((V : Int) % 10) := by rw [Int.neg_tmod, Int.tmod_eq_emod_of_nonneg (by omega)]
      have eq : (-(V : Int)).tdiv 10 = -((V : Int) / 10) := by rw [Int.neg_tdiv, Int.tdiv_eq_ediv_of_nonneg (by omega)]
      have hvn : (-(V : Int) != 0) = true := bne_iff_ne.2 (by omega)
      have HC : Hid ((#[Value.int .u8 (48 + (V : Int) % 10)])[0 + 0]? = some (.int .u8 ((hd (V % 10)).toNat : Int))) := by
        show some (Value.int .u8 (48 + (V : Int) % 10)) = _
        rw [hd_nat (by omega), if_pos (by omega)]
        congr 2
      have HN : Hid (digZ (V / 10) ++ hd (V % 10) :: l = digP U) := by
        show digZ (V / 10) ++ hd (V % 10) :: l = digP U
        rw [← HD.out, digZ_step hv, List.append_assoc]; rfl
      have hl2 : l.length + 1 ≤ 19 := by
        have h3 := congrArg List.length HN.out
        rw [List.length_append, List.length_cons] at h3
        omega
      have hv1 : 1 ≤ V := by omega
      clear hv
      go_wp2_with (first | (refine strBack rfl _ _ 5 _ rfl Tryd.underlying70 Tryd.underlying5 Tryd.underlying9 _ _ _ _ rfl [hd (V % 10)] rfl (heap_alloc_new _ _) (fun j hj => by obtain rfl : j = 0 := by { simp at hj; omega }; exact HC.out) ?_) | (refine strAdd rfl _ _ _ _ rfl (bs [hd (V % 10)]) (bs l) (bs (hd (V % 10) :: l)) rfl rfl (by rw [bs_size, bs_size]; simp; omega) (bs_add _ _) ?_))
      go_roundw
      case rel => exact ⟨V / 10, hd (V % 10) :: l, rfl, rfl, by omega, by rw [List.length_cons]; omega, HN, keepBa HB _⟩
      case measure => simp [intOf]; omega
set_option maxRecDepth 100000 in
set_option maxHeartbeats 2000000 in
theorem rdec_any (n : Int) (w : World) (n0 : -9223372036854775808 ≤ n) (n1 : n ≤ 9223372036854775807) : Calls Tryd.prog 49 #[.int .i64 n] w fun e w' => e = .returned (.string (bs (decL n))) ∧ Below w.heap.size w w' := by
  by_cases h : n = 0
  · subst h; exact rdec_zero w
  · unfold decL
    by_cases h2 : n < 0
    · rw [if_pos h2]; exact rdec_neg n w n.natAbs (by omega) (by omega) (by omega)
    · rw [if_neg h2]; exact rdec_pos n w n.natAbs (by omega) (by omega) (by omega)
end Go.Proofs.YtnlghbnehfgobaaDoor.My
