/- The law of orders. -/
import Derived.Test.YteepcoigihbdoaaAluAwake
import Derived.Laws.BitsAllLaws
namespace Go.Proofs.Yteepcoigihbdoaa.My
open Go.RowKit
theorem do_eq {op a b v u : Int} (h : DoIs op a b v) (e : v = u) : DoIs op a b u := e ▸ h
theorem tk_eq {op a b : Int} {v u : Bool} (h : TakenIs op a b v) (e : v = u) : TakenIs op a b u := e ▸ h
theorem xor_top_nat {n : Nat} (h : n < 4294967296) : n ^^^ 2147483648 = if 2147483648 ≤ n then n - 2147483648 else n + 2147483648 := by
  have h1 : n ^^^ 2147483648 = (n / 2147483648 ^^^ 1) * 2147483648 + n % 2147483648 := by
    have a1 : (n ^^^ 2147483648) / 2 ^ 31 = n / 2 ^ 31 ^^^ 2147483648 / 2 ^ 31 := Nat.xor_div_two_pow
    have a2 : (n ^^^ 2147483648) % 2 ^ 31 = n % 2 ^ 31 ^^^ 2147483648 % 2 ^ 31 := Nat.xor_mod_two_pow
    have a3 := Nat.div_add_mod (n ^^^ 2147483648) (2 ^ 31)
    rw [a1, a2] at a3
    simp at a3
    omega
  rw [h1]
  have h2 : n / 2147483648 = 0 ∨ n / 2147483648 = 1 := by omega
  rcases h2 with h2 | h2
  · rw [h2, if_neg (by omega), show (0 ^^^ 1 : Nat) = 1 from rfl]; omega
  · rw [h2, if_pos (by omega), show (1 ^^^ 1 : Nat) = 0 from rfl]; omega
theorem xor_top {a : Int} (a0 : 0 ≤ a) (a1 : a < 4294967296) : bits .xor .u32 a 2147483648 = if 2147483648 ≤ a then a - 2147483648 else a + 2147483648 := by
  rw [u32_xor a 2147483648 a0 a1 (by decide) (by decide)]
  obtain ⟨n, rfl⟩ := Int.eq_ofNat_of_zero_le a0
  have h : n < 4294967296 := by omega
  clear a0 a1
  have e := xor_top_nat h
  simp only [Int.toNat_natCast, show (2147483648 : Int).toNat = 2147483648 from rfl]
  rw [e]
  split <;> split <;> omega

/-- What one round asks: the order's operation and its two branches, of a, b and c. -/
def Round (op t1 t2 a b c : Int) : Prop :=
  (DoIs op a b 1 ∧ DoIs op b a 0 ∧ (a == b) = false ∧ DoIs op b c 1 ∧ DoIs op a c 1 ∧ TakenIs t1 a b true ∧ TakenIs t2 a b false) ∨
  (DoIs op a b 1 ∧ DoIs op b a 0 ∧ (a == b) = false ∧ DoIs op b c 0 ∧ TakenIs t1 a b true ∧ TakenIs t2 a b false) ∨
  (DoIs op a b 0 ∧ DoIs op b a 1 ∧ (a == b) = false ∧ TakenIs t1 a b false ∧ TakenIs t2 a b true) ∨
  (DoIs op a b 0 ∧ DoIs op b a 0 ∧ (a == b) = true ∧ TakenIs t1 a b false ∧ TakenIs t2 a b true)

/-- What stands behind the loop. -/
def Tail (a b low high s xa xb : Int) : Prop :=
  DoIs 18 a b low ∧ DoIs 19 a b high ∧ (low + high) % 4294967296 = (a + b) % 4294967296 ∧ DoIs 9 high low 0 ∧ ((low == a) = true ∨ (low == a) = false ∧ (low == b) = true) ∧ TakenIs 43 a b (a == b) ∧ TakenIs 44 a b (!(a == b)) ∧
  DoIs 9 a b s ∧ bits .xor .u32 a 2147483648 = xa ∧ bits .xor .u32 b 2147483648 = xb ∧ DoIs 10 xa xb s

set_option maxRecDepth 8000 in
set_option maxHeartbeats 2000000 in
theorem order_walk (a b c low high s xa xb : Int) (w : World) (r0 : Round 9 45 46 a b c) (r1 : Round 10 47 48 a b c) (t : Tail a b low high s xa xb) : Calls Try.prog 5 #[.int .u32 a, .int .u32 b, .int .u32 c] w fun e w' => e = .returned (.bool true) ∧ w = w' := by
  go_enter Try.func5, Try.ntmps5
  go_wp2
  go_loop [7] (fun i => ∃ j : Nat, j ≤ 2 ∧ i = .int .i64 j) (fun i => 2 - (intOf i).toNat)
  case atStart => exact ⟨0, by omega, rfl⟩
  case round =>
    obtain ⟨j, hj, rfl⟩ := hrel
    by_cases h0 : j = 0
    · subst h0
      rcases r0 with ⟨d1, d2, e, d3, d4, t1, t2⟩ | ⟨d1, d2, e, d3, t1, t2⟩ | ⟨d1, d2, e, t1, t2⟩ | ⟨d1, d2, e, t1, t2⟩
      all_goals
        go_wp2_with (first | (go_at_call 13; refine (dov_any (by assumption) _).mono ?_; rintro e w' ⟨rfl, rfl⟩) | (go_at_call 10; refine (taken_of (by assumption) _).mono ?_; rintro e w' ⟨rfl, rfl⟩) | (go_at_call 12; refine (awake_any _).mono ?_; rintro e w' ⟨rfl, rfl⟩))
        go_round
        case rel => exact ⟨1, by omega, by go_num⟩
        case measure => simp [intOf]
    · by_cases h1 : j = 1
      · subst h1
        rcases r1 with ⟨d1, d2, e, d3, d4, t1, t2⟩ | ⟨d1, d2, e, d3, t1, t2⟩ | ⟨d1, d2, e, t1, t2⟩ | ⟨d1, d2, e, t1, t2⟩
        all_goals
          go_wp2_with (first | (go_at_call 13; refine (dov_any (by assumption) _).mono ?_; rintro e w' ⟨rfl, rfl⟩) | (go_at_call 10; refine (taken_of (by assumption) _).mono ?_; rintro e w' ⟨rfl, rfl⟩) | (go_at_call 12; refine (awake_any _).mono ?_; rintro e w' ⟨rfl, rfl⟩))
          go_round
          case rel => exact ⟨2, by omega, by go_num⟩
          case measure => simp [intOf]
      · obtain rfl : j = 2 := by omega
        obtain ⟨d1, d2, m, d3, m2, t1, t2, d4, x1, x2, d5⟩ := t
        by_cases hab : (a == b) = true
        · rw [hab] at t1 t2
          rcases m2 with m2 | ⟨m2, m3⟩
          all_goals
            go_wp2_with (first | (go_at_call 13; refine (dov_any (by assumption) _).mono ?_; rintro e w' ⟨rfl, rfl⟩) | (go_at_call 10; refine (taken_of (by assumption) _).mono ?_; rintro e w' ⟨rfl, rfl⟩) | (go_at_call 12; refine (awake_any _).mono ?_; rintro e w' ⟨rfl, rfl⟩))
            all_goals (first | (go_ret; exact ⟨rfl, rfl⟩) | (exact absurd (beq_iff_eq.1 m2) (by assumption)) | (exact absurd (beq_iff_eq.1 m3) (by assumption)))
        · have hab := Bool.eq_false_iff.2 hab
          rw [hab] at t1 t2
          rcases m2 with m2 | ⟨m2, m3⟩
          all_goals
            go_wp2_with (first | (go_at_call 13; refine (dov_any (by assumption) _).mono ?_; rintro e w' ⟨rfl, rfl⟩) | (go_at_call 10; refine (taken_of (by assumption) _).mono ?_; rintro e w' ⟨rfl, rfl⟩) | (go_at_call 12; refine (awake_any _).mono ?_; rintro e w' ⟨rfl, rfl⟩))
            all_goals (first | (go_ret; exact ⟨rfl, rfl⟩) | (exact absurd (beq_iff_eq.1 m2) (by assumption)) | (exact absurd (beq_iff_eq.1 m3) (by assumption)))

theorem if_1 {p : Prop} [Decidable p] (h : p) : (if p then (1 : Int) else 0) = 1 := if_pos h
theorem if_0 {p : Prop} [Decidable p] (h : ¬p) : (if p then (1 : Int) else 0) = 0 := if_neg h
theorem sgn_inj {a b : Int} (a0 : 0 ≤ a) (a1 : a < 4294967296) (b0 : 0 ≤ b) (b1 : b < 4294967296) (h : sgn a = sgn b) : a = b := by
  revert h; unfold sgn; split <;> split <;> omega
theorem round_s (a b c : Int) (a0 : 0 ≤ a) (a1 : a < 4294967296) (b0 : 0 ≤ b) (b1 : b < 4294967296) (c0 : 0 ≤ c) (c1 : c < 4294967296) : Round 9 45 46 a b c := by
  have d1 := do_slt a b a0 a1 b0 b1
  have d2 := do_slt b a b0 b1 a0 a1
  have d3 := do_slt b c b0 b1 c0 c1
  have d4 := do_slt a c a0 a1 c0 c1
  have t1 := taken_45 a b a0 a1 b0 b1
  have t2 := taken_46 a b a0 a1 b0 b1
  by_cases h : sgn a < sgn b
  · have ne : (a == b) = false := beq_eq_false_iff_ne.2 (fun e => by rw [e] at h; omega)
    by_cases h2 : sgn b < sgn c
    · exact Or.inl ⟨do_eq d1 (if_1 h), do_eq d2 (if_0 (by omega)), ne, do_eq d3 (if_1 h2), do_eq d4 (if_1 (by omega)), tk_eq t1 (decide_eq_true h), tk_eq t2 (decide_eq_false (by omega))⟩
    · exact Or.inr (Or.inl ⟨do_eq d1 (if_1 h), do_eq d2 (if_0 (by omega)), ne, do_eq d3 (if_0 h2), tk_eq t1 (decide_eq_true h), tk_eq t2 (decide_eq_false (by omega))⟩)
  · by_cases h3 : sgn b < sgn a
    · have ne : (a == b) = false := beq_eq_false_iff_ne.2 (fun e => by rw [e] at h3; omega)
      exact Or.inr (Or.inr (Or.inl ⟨do_eq d1 (if_0 h), do_eq d2 (if_1 h3), ne, tk_eq t1 (decide_eq_false h), tk_eq t2 (decide_eq_true (by omega))⟩))
    · exact Or.inr (Or.inr (Or.inr ⟨do_eq d1 (if_0 h), do_eq d2 (if_0 h3), beq_iff_eq.2 (sgn_inj a0 a1 b0 b1 (by omega)), tk_eq t1 (decide_eq_false h), tk_eq t2 (decide_eq_true (by omega))⟩))
theorem round_u (a b c : Int) (a0 : 0 ≤ a) (a1 : a < 4294967296) (b0 : 0 ≤ b) (b1 : b < 4294967296) (c0 : 0 ≤ c) (c1 : c < 4294967296) : Round 10 47 48 a b c := by
  have d1 := do_sltu a b a0 a1 b0 b1
  have d2 := do_sltu b a b0 b1 a0 a1
  have d3 := do_sltu b c b0 b1 c0 c1
  have d4 := do_sltu a c a0 a1 c0 c1
  have t1 := taken_47 a b a0 a1 b0 b1
  have t2 := taken_48 a b a0 a1 b0 b1
  by_cases h : a < b
  · have ne : (a == b) = false := beq_eq_false_iff_ne.2 (fun e => by rw [e] at h; omega)
    by_cases h2 : b < c
    · exact Or.inl ⟨do_eq d1 (if_1 h), do_eq d2 (if_0 (by omega)), ne, do_eq d3 (if_1 h2), do_eq d4 (if_1 (by omega)), tk_eq t1 (decide_eq_true h), tk_eq t2 (decide_eq_false (by omega))⟩
    · exact Or.inr (Or.inl ⟨do_eq d1 (if_1 h), do_eq d2 (if_0 (by omega)), ne, do_eq d3 (if_0 h2), tk_eq t1 (decide_eq_true h), tk_eq t2 (decide_eq_false (by omega))⟩)
  · by_cases h3 : b < a
    · have ne : (a == b) = false := beq_eq_false_iff_ne.2 (fun e => by rw [e] at h3; omega)
      exact Or.inr (Or.inr (Or.inl ⟨do_eq d1 (if_0 h), do_eq d2 (if_1 h3), ne, tk_eq t1 (decide_eq_false h), tk_eq t2 (decide_eq_true (by omega))⟩))
    · exact Or.inr (Or.inr (Or.inr ⟨do_eq d1 (if_0 h), do_eq d2 (if_0 h3), beq_iff_eq.2 (by omega), tk_eq t1 (decide_eq_false h), tk_eq t2 (decide_eq_true (by omega))⟩))
theorem tail_any (a b : Int) (a0 : 0 ≤ a) (a1 : a < 4294967296) (b0 : 0 ≤ b) (b1 : b < 4294967296) : ∃ low high s xa xb, Tail a b low high s xa xb := by
  have h18 := do_min a b a0 a1 b0 b1
  have h19 := do_max a b a0 a1 b0 b1
  have t1 := taken_43 a b a0 a1 b0 b1
  have t2 := taken_44 a b a0 a1 b0 b1
  have ds := do_slt a b a0 a1 b0 b1
  have xa := xor_top a0 a1
  have xb := xor_top b0 b1
  have xx : ∀ x y : Int, (if 2147483648 ≤ a then a - 2147483648 else a + 2147483648) = x → (if 2147483648 ≤ b then b - 2147483648 else b + 2147483648) = y → (0 ≤ x ∧ x < 4294967296) ∧ (0 ≤ y ∧ y < 4294967296) ∧ ((sgn a < sgn b) ↔ x < y) := by
    intro x y hx hy
    unfold sgn
    subst hx hy
    split <;> split <;> refine ⟨⟨?_, ?_⟩, ⟨?_, ?_⟩, ?_⟩ <;> omega
  obtain ⟨⟨p1, p2⟩, ⟨p3, p4⟩, p5⟩ := xx _ _ rfl rfl
  have du := do_sltu _ _ p1 p2 p3 p4
  by_cases h : sgn b < sgn a
  · refine ⟨b, a, 0, _, _, do_eq h18 (if_pos h), do_eq h19 (if_neg (by omega)), by rw [Int.add_comm], do_eq (do_slt a b a0 a1 b0 b1) (if_0 (by omega)), ?_, t1, t2, do_eq ds (if_0 (by omega)), xa, xb, do_eq du (if_0 (fun q => by have := p5.2 q; omega))⟩
    exact Or.inr ⟨beq_eq_false_iff_ne.2 (fun e => by rw [e] at h; omega), beq_iff_eq.2 rfl⟩
  · by_cases h3 : sgn a < sgn b
    · exact ⟨a, b, 1, _, _, do_eq h18 (if_neg h), do_eq h19 (if_pos h3), rfl, do_eq (do_slt b a b0 b1 a0 a1) (if_0 (by omega)), Or.inl (beq_iff_eq.2 rfl), t1, t2, do_eq ds (if_1 h3), xa, xb, do_eq du (if_1 (p5.1 h3))⟩
    · have hab := sgn_inj a0 a1 b0 b1 (by omega)
      exact ⟨a, a, 0, _, _, do_eq h18 (if_neg h), do_eq h19 (if_neg h3), by rw [hab], do_eq (do_slt a a a0 a1 a0 a1) (if_0 (by omega)), Or.inl (beq_iff_eq.2 rfl), t1, t2, do_eq ds (if_0 h3), xa, xb, do_eq du (if_0 (fun q => h3 (p5.2 q)))⟩
theorem order_any (a b c : Int) (w : World) (a0 : 0 ≤ a) (a1 : a < 4294967296) (b0 : 0 ≤ b) (b1 : b < 4294967296) (c0 : 0 ≤ c) (c1 : c < 4294967296) : Calls Try.prog 5 #[.int .u32 a, .int .u32 b, .int .u32 c] w fun e w' => e = .returned (.bool true) ∧ Below w.heap.size w w' := by
  obtain ⟨low, high, s, xa, xb, t⟩ := tail_any a b a0 a1 b0 b1
  refine (order_walk a b c low high s xa xb w (round_s a b c a0 a1 b0 b1 c0 c1) (round_u a b c a0 a1 b0 b1 c0 c1) t).mono ?_
  rintro e w' ⟨rfl, rfl⟩
  exact ⟨rfl, Below.refl _ _⟩
end Go.Proofs.Yteepcoigihbdoaa.My
