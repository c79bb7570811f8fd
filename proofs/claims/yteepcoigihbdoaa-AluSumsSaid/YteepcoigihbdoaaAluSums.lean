/- The law of sums. -/
import Derived.Test.YteepcoigihbdoaaAluAwake
import Derived.Laws.BitsAllLaws
import Derived.Deep.LoopGhost
namespace Go.Proofs.Yteepcoigihbdoaa.My
open Go.RowKit

set_option maxRecDepth 8000 in
set_option maxHeartbeats 2000000 in
theorem sums_walk (a b s x an o v4 v5 v6 v7 : Int) (w : World)
    (d1 : DoIs 1 a b s) (d2 : DoIs 2 s b a) (d3 : DoIs 1 b a s) (d4 : DoIs 5 a b x) (d5 : DoIs 5 x b a) (d6 : DoIs 3 a b an) (d7 : DoIs 4 a b o) (m : (an + o) % 4294967296 = (a + b) % 4294967296)
    (i0 : DoIs 25 a b s) (i1 : DoIs 26 a b an) (i2 : DoIs 27 a b o) (i3 : DoIs 28 a b x) (i4 : DoIs 29 a b v4) (i5 : DoIs 30 a b v5) (i6 : DoIs 31 a b v6) (i7 : DoIs 32 a b v7)
    (k4 : DoIs 9 a b v4) (k5 : DoIs 6 a b v5) (k6 : DoIs 7 a b v6) (k7 : DoIs 8 a b v7) :
    Calls Try.prog 4 #[.int .u32 a, .int .u32 b] w fun e w' => e = .returned (.bool true) ∧ Below w.heap.size w w' := by
  have HB := keepBa (startB w) (.cells #[.int .i64 1, .int .i64 3, .int .i64 4, .int .i64 5, .int .i64 9, .int .i64 6, .int .i64 7, .int .i64 8] 28)
  have HA : Hid ((w.alloc (.cells #[.int .i64 1, .int .i64 3, .int .i64 4, .int .i64 5, .int .i64 9, .int .i64 6, .int .i64 7, .int .i64 8] 28)).heap[w.heap.size]? = some (.cells #[.int .i64 1, .int .i64 3, .int .i64 4, .int .i64 5, .int .i64 9, .int .i64 6, .int .i64 7, .int .i64 8] 28 (0, 0))) := heap_alloc_new _ _
  go_enter Try.func4, Try.ntmps4
  go_wp2_with (first | (go_at_call 13; refine (dov_any (by assumption) _).mono ?_; rintro e w1 ⟨rfl, rfl⟩) | (go_at_call 8; refine (do_of (by assumption) _).mono ?_; rintro e w1 ⟨rfl, rfl⟩) | (go_at_call 12; refine (awake_any _).mono ?_; rintro e w1 ⟨rfl, rfl⟩))
  go_loopw [6] (fun i wr => ∃ j : Nat, j ≤ 8 ∧ i = .int .i64 j ∧ Hid (wr.heap[w.heap.size]? = some (.cells #[.int .i64 1, .int .i64 3, .int .i64 4, .int .i64 5, .int .i64 9, .int .i64 6, .int .i64 7, .int .i64 8] 28 (0, 0))) ∧ Hid (Below w.heap.size w wr ∧ w.heap.size ≤ wr.heap.size)) (fun i _ => 8 - (intOf i).toNat)
  case atStart => exact ⟨0, by omega, rfl, HA, HB⟩
  case round =>
    clear HA HB m
    obtain ⟨j, hj, rfl, HA, HB⟩ := hrel
    have c0 := (cellA HA 0).trans rfl
    have c1 := (cellA HA 1).trans rfl
    have c2 := (cellA HA 2).trans rfl
    have c3 := (cellA HA 3).trans rfl
    have c4 := (cellA HA 4).trans rfl
    have c5 := (cellA HA 5).trans rfl
    have c6 := (cellA HA 6).trans rfl
    have c7 := (cellA HA 7).trans rfl
    have h8 : j = 0 ∨ j = 1 ∨ j = 2 ∨ j = 3 ∨ j = 4 ∨ j = 5 ∨ j = 6 ∨ j = 7 ∨ j = 8 := by omega
    clear hj
    rcases h8 with rfl | rfl | rfl | rfl | rfl | rfl | rfl | rfl | rfl
    case inr.inr.inr.inr.inr.inr.inr.inr =>
      go_wp2_with (first | (go_at_call 13; refine (dov_any (by assumption) _).mono ?_; rintro e w1 ⟨rfl, rfl⟩) | (go_at_call 8; refine (do_of (by assumption) _).mono ?_; rintro e w1 ⟨rfl, rfl⟩) | (go_at_call 12; refine (awake_any _).mono ?_; rintro e w1 ⟨rfl, rfl⟩))
      go_ret
      exact ⟨rfl, HB.out.1⟩
    all_goals
      go_wp2_with (first | (go_at_call 13; refine (dov_any (by assumption) _).mono ?_; rintro e w1 ⟨rfl, rfl⟩) | (go_at_call 8; refine (do_of (by assumption) _).mono ?_; rintro e w1 ⟨rfl, rfl⟩) | (go_at_call 12; refine (awake_any _).mono ?_; rintro e w1 ⟨rfl, rfl⟩))
      go_roundw
      case rel => first | exact ⟨1, by omega, by go_num, HA, HB⟩ | exact ⟨2, by omega, by go_num, HA, HB⟩ | exact ⟨3, by omega, by go_num, HA, HB⟩ | exact ⟨4, by omega, by go_num, HA, HB⟩ | exact ⟨5, by omega, by go_num, HA, HB⟩ | exact ⟨6, by omega, by go_num, HA, HB⟩ | exact ⟨7, by omega, by go_num, HA, HB⟩ | exact ⟨8, by omega, by go_num, HA, HB⟩
      case measure => simp [intOf]

theorem nat_and_or (m n : Nat) : (m &&& n) + (m ||| n) = m + n := by
  induction m using Nat.strongRecOn generalizing n with
  | ind m ih =>
    by_cases hm : m = 0
    · subst hm; simp
    · have i := ih (m / 2) (by omega) (n / 2)
      have e1 : (m &&& n) / 2 = m / 2 &&& n / 2 := Nat.and_div_two
      have e2 : (m ||| n) / 2 = m / 2 ||| n / 2 := Nat.or_div_two
      have f1 := Nat.and_mod_two_eq_one (a := m) (b := n)
      have f2 := Nat.or_mod_two_eq_one (a := m) (b := n)
      omega
theorem sums_any (a b : Int) (w : World) (a0 : 0 ≤ a) (a1 : a < 4294967296) (b0 : 0 ≤ b) (b1 : b < 4294967296) : Calls Try.prog 4 #[.int .u32 a, .int .u32 b] w fun e w' => e = .returned (.bool true) ∧ Below w.heap.size w w' := by
  have s0 : 0 ≤ (a + b) % 4294967296 := by omega
  have s1 : (a + b) % 4294967296 < 4294967296 := by omega
  have d2 := do_sub _ b s0 s1 b0 b1
  rw [show ((a + b) % 4294967296 - b) % 4294967296 = a by omega] at d2
  have d3 := do_add b a b0 b1 a0 a1
  rw [show b + a = a + b by omega] at d3
  have hx : bits .xor .u32 a b = ((a.toNat ^^^ b.toNat : Nat) : Int) := u32_xor a b a0 a1 b0 b1
  have x1 : a.toNat ^^^ b.toNat < 4294967296 := Nat.xor_lt_two_pow (n := 32) (by omega) (by omega)
  have hxx : bits .xor .u32 (bits .xor .u32 a b) b = a := by
    rw [hx, u32_xor _ b (by omega) (by omega) b0 b1, Int.toNat_natCast, Nat.xor_assoc, Nat.xor_self, Nat.xor_zero]
    omega
  have d5 := do_5 (bits .xor .u32 a b) b (by rw [hx]; omega) (by rw [hx]; omega) b0 b1
  rw [hxx] at d5
  have m : (bits .and .u32 a b + bits .or .u32 a b) % 4294967296 = (a + b) % 4294967296 := by
    rw [u32_and a b a0 a1 b0 b1, u32_or a b a0 a1 b0 b1]
    have := nat_and_or a.toNat b.toNat
    omega
  exact sums_walk a b _ _ _ _ _ _ _ _ w (do_add a b a0 a1 b0 b1) d2 d3 (do_5 a b a0 a1 b0 b1) d5 (do_3 a b a0 a1 b0 b1) (do_4 a b a0 a1 b0 b1) m
    (do_addi a b a0 a1 b0 b1) (do_26 a b a0 a1 b0 b1) (do_27 a b a0 a1 b0 b1) (do_28 a b a0 a1 b0 b1) (do_slti a b a0 a1 b0 b1) (do_30 a b a0 a1 b0 b1) (do_31 a b a0 a1 b0 b1) (do_32 a b a0 a1 b0 b1)
    (do_slt a b a0 a1 b0 b1) (do_6 a b a0 a1 b0 b1) (do_7 a b a0 a1 b0 b1) (do_8 a b a0 a1 b0 b1)
end Go.Proofs.Yteepcoigihbdoaa.My
