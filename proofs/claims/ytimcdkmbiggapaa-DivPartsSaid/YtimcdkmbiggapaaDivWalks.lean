/- Walks over package div and its reference: what each function answers, told by division bit by bit. -/
import Derived.Test.YtimcdkmbiggapaaRowWords
import Derived.Test.YtimcdkmbiggapaaDivSpec
import Derived.LoopTactic
import Derived.Outline
import Derived.BigQuiet
import Derived.Deep.QuietTactic
import Derived.RegionTactic
import Derived.Laws.BitsLemmas
namespace Go.Proofs.Ytimcdkmbiggapaa.My
open Go.RowKit

theorem left_any (n : Int) (w : World) : Calls Try.prog 19 #[.int .i64 n] w fun e w' => e = .returned (.int .i64 (lf n)) ∧ w = w' := by
  by_cases h1 : n < 0
  · go_enter Try.func19, Try.ntmps19
    go_wp2
    go_ret
    exact ⟨by simp [lf]; omega, rfl⟩
  · by_cases h2 : n ≤ 32
    · go_enter Try.func19, Try.ntmps19
      go_wp2
      all_goals (go_ret; exact ⟨by simp [lf]; omega, rfl⟩)
    · go_enter Try.func19, Try.ntmps19
      go_wp2
      all_goals (go_ret; exact ⟨by simp [lf]; omega, rfl⟩)
theorem rleft_any (n : Int) (w : World) : Calls Try.prog 20 #[.int .i64 n] w fun e w' => e = .returned (.int .i64 (lf n)) ∧ w = w' := by
  by_cases h1 : n < 0
  · go_enter Try.func20, Try.ntmps20
    go_wp2
    all_goals (go_ret; exact ⟨by simp [lf]; omega, rfl⟩)
  · by_cases h2 : 32 < n
    · go_enter Try.func20, Try.ntmps20
      go_wp2
      all_goals (go_ret; exact ⟨by simp [lf]; omega, rfl⟩)
    · go_enter Try.func20, Try.ntmps20
      go_wp2
      all_goals (go_ret; exact ⟨by simp [lf]; omega, rfl⟩)

theorem ret_int {k : IntKind} {a b : Int} (h : a = b) : Ending.returned (.int k a) = .returned (.int k b) := by rw [h]
theorem pow_step (n : Int) (k : Nat) : n / 2 ^ k / 2 = n / 2 ^ (k + 1) := by
  rw [Int.pow_succ, Int.ediv_ediv_of_nonneg (Int.pow_nonneg (by decide))]
theorem pow_nn {n : Int} (h : 0 ≤ n) (k : Nat) : 0 ≤ n / 2 ^ k := Int.ediv_nonneg h (Int.pow_nonneg (by decide))

theorem bit_any (n k : Int) (w : World) (h0 : 0 ≤ n) (h1 : n < 4294967296) (hk : k ≤ 9223372036854775807) : Calls Try.prog 21 #[.int .u32 n, .int .i64 k] w fun e w' => e = .returned (.int .u64 (bitZ n k.toNat)) ∧ w = w' := by
  go_enter Try.func21, Try.ntmps21
  go_wp2
  go_loop [5, 6] (fun x i => ∃ (j : Nat) (X : Int), j ≤ k.toNat ∧ i = .int .i64 j ∧ x = .int .u64 X ∧ 0 ≤ X ∧ X < 4294967296 ∧ Hid (X = n / 2 ^ j)) (fun _ i => k.toNat - (intOf i).toNat)
  case atStart => exact ⟨0, n, Nat.zero_le _, rfl, rfl, h0, h1, by show n = n / 2 ^ 0; simp⟩
  case round =>
    obtain ⟨j, X, hj, rfl, rfl, x0, x1, HX⟩ := hrel
    by_cases hlt : (j : Int) < k
    · go_wp2
      go_round
      case rel => exact ⟨j + 1, X / 2, by omega, by go_num, rfl, by omega, by omega, by show X / 2 = n / 2 ^ (j + 1); rw [HX.out, pow_step]⟩
      case measure => simp [intOf]; omega
    · have hjk : j = k.toNat := by omega
      have HJ := Lib.hid hjk
      clear hjk
      go_wp2
      go_ret
      exact ⟨ret_int (by rw [← HJ.out, HX.out]; rfl), rfl⟩

theorem drewN_two (w : World) (A B : Obj) : ∀ n, ((w.alloc A).alloc B).drewN n = ((w.drewN n).alloc A).alloc B := fun _ => rfl
theorem ret_dv {x y z : Value} {a b a' b' : Int} (ha : a = a') (hb : b = b') : Ending.returned (.agg #[x, y, .int .u32 a, .int .u32 b, z]) = .returned (.agg #[x, y, .int .u32 a', .int .u32 b', z]) := by rw [ha, hb]
theorem ret_u {k : IntKind} {a b : Int} (h : a = b) : Value.int k a = .int k b := by rw [h]
theorem and1 {x : Int} (h0 : 0 ≤ x) (h1 : x < 4294967296) : bits .and .u32 x 1 = x % 2 := by
  have := bits_mask .u32 32 (by decide) (fun n a b => by rw [IntKind.wrap_u32]; omega) 1 (by decide) x h0 (by simpa using h1)
  simpa using this
theorem wrap_u64 (n : Int) : IntKind.u64.wrap n = n % 18446744073709551616 := by simp [IntKind.wrap, IntKind.bits, IntKind.signed]
theorem wrap_u64_in {n : Int} (h0 : 0 ≤ n) (h1 : n < 18446744073709551616) : IntKind.u64.wrap n = n := by rw [wrap_u64, Int.emod_eq_of_lt h0 h1]
theorem or1_64 {x y : Int} (hx : 0 ≤ x) (hx1 : x < 18446744073709551616) (he : x % 2 = 0) (h0 : 0 ≤ y) (h1 : y ≤ 1) : bits .or .u64 x y = x + y :=
  bits_join .u64 64 (by decide) (fun n a b => wrap_u64_in a (by simpa using b)) 1 x y hx (by simpa using he) (by simpa using hx1) h0 (by simp; omega) (by simp; omega)
theorem or1_32 {x y : Int} (hx : 0 ≤ x) (hx1 : x < 4294967296) (he : x % 2 = 0) (h0 : 0 ≤ y) (h1 : y ≤ 1) : bits .or .u32 x y = x + y :=
  bits_join .u32 32 (by decide) (fun n a b => by rw [IntKind.wrap_u32]; omega) 1 x y hx (by simpa using he) (by simpa using hx1) h0 (by simp; omega) (by simp; omega)

set_option maxHeartbeats 1000000 in
theorem step_any (s : DV) (w : World) (h : okD s) : Calls Try.prog 9 #[.agg #[.int .u32 s.n, .int .u32 s.d, .int .u32 s.q, .int .u32 s.r, .int .i64 s.l]] w fun e w' => e = .returned (.agg #[.int .u32 (stepD s).n, .int .u32 (stepD s).d, .int .u32 (stepD s).q, .int .u32 (stepD s).r, .int .i64 (stepD s).l]) ∧ Below w.heap.size w w' := by
  obtain ⟨⟨n0, n1⟩, ⟨d0, d1⟩, ⟨q0, q1⟩, ⟨r0, r1⟩⟩ := h
  obtain ⟨b0, b1⟩ := lf_bounds s.l
  by_cases c1 : lf s.l = 0
  · have hs : stepD s = ⟨s.n, s.d, s.q, s.r, 0⟩ := by unfold stepD; rw [if_pos c1]
    rw [hs]
    clear hs
    go_enter Try.func9, Try.ntmps9
    go_wp2_with (go_at_call 19; refine (left_any _ _).mono ?_; rintro e w' ⟨rfl, rfl⟩)
    refine bodyPost_ret (results_cell_row rfl _ _ (w.heap.size + 1) 26 _ (0, 0) _ rfl (heap_alloc2_new _ _ _) Try.underlying26 rfl (by kernel_rfl)) rfl ⟨rfl, ?_⟩
    exact ((Below.refl _ _).alloc (Nat.le_refl _) _).alloc (by simp) _
  · obtain ⟨L, hL⟩ : ∃ L, lf s.l = L + 1 := ⟨lf s.l - 1, by omega⟩
    have l0 : 0 ≤ L := by omega
    have l1 : L < 32 := by omega
    have m1 : (L + 1 == 0) = false := by rw [beq_eq_false_iff_ne]; omega
    obtain ⟨X, hX⟩ : ∃ X, s.n / 2 ^ L.toNat = X := ⟨_, rfl⟩
    have x0 : 0 ≤ X := hX ▸ pow_nn n0 _
    have x1 : X < 4294967296 := by have := Int.ediv_le_self (2 ^ L.toNat) n0; rw [hX] at this; omega
    obtain ⟨B, hB⟩ : ∃ B, X % 2 = B := ⟨_, rfl⟩
    have e1 : bits .and .u32 X 1 = B := by rw [and1 x0 x1, hB]
    have y0 : 0 ≤ B := by omega
    have y1 : B ≤ 1 := by omega
    have e2 : bits .or .u64 (s.r * 2) B = s.r * 2 + B := or1_64 (by omega) (by omega) (by omega) y0 y1
    have e3 : bits .or .u32 (s.q * 2 % 4294967296) 1 = s.q * 2 % 4294967296 + 1 := or1_32 (by omega) (by omega) (by omega) (by omega) (by omega)
    have hbz : bitZ s.n (lf s.l - 1).toNat = B := by rw [hL, show L + 1 - 1 = L by omega]; unfold bitZ; rw [hX, hB]
    by_cases c2 : s.d ≤ s.r * 2 + B
    · have hs : stepD s = ⟨s.n, s.d, s.q * 2 % 4294967296 + 1, (s.r * 2 + B - s.d) % 4294967296, L⟩ := by
        unfold stepD; rw [if_neg c1, hbz, if_pos c2, hL, show L + 1 - 1 = L by omega]
      rw [hs]
      have e4 : IntKind.u64.wrap (s.r * 2 + B - s.d) = s.r * 2 + B - s.d := wrap_u64_in (by omega) (by omega)
      clear hs hbz hB c1
      go_enter Try.func9, Try.ntmps9
      go_wp2_with (go_at_call 19; refine (left_any _ _).mono ?_; rintro e w' ⟨rfl, rfl⟩)
      refine bodyPost_ret (results_cell_row rfl _ _ (w.heap.size + 1) 26 _ (0, 0) _ rfl (heap_alloc2_new _ _ _) Try.underlying26 rfl (by kernel_rfl)) rfl ⟨rfl, ?_⟩
      exact ((Below.refl _ _).alloc (Nat.le_refl _) _).alloc (by simp) _
    · have hs : stepD s = ⟨s.n, s.d, s.q * 2 % 4294967296, s.r * 2 + B, L⟩ := by
        unfold stepD; rw [if_neg c1, hbz, if_neg c2, hL, show L + 1 - 1 = L by omega, Int.emod_eq_of_lt (a := s.r * 2 + B) (by omega) (by omega)]
      rw [hs]
      clear hs hbz hB c1
      go_enter Try.func9, Try.ntmps9
      go_wp2_with (go_at_call 19; refine (left_any _ _).mono ?_; rintro e w' ⟨rfl, rfl⟩)
      refine bodyPost_ret (results_cell_row rfl _ _ (w.heap.size + 1) 26 _ (0, 0) _ rfl (heap_alloc2_new _ _ _) Try.underlying26 rfl (by kernel_rfl)) rfl ⟨rfl, ?_⟩
      exact ((Below.refl _ _).alloc (Nat.le_refl _) _).alloc (by simp) _

set_option maxHeartbeats 1000000 in
theorem rstep_any (s : DV) (w : World) (h : okD s) : Calls Try.prog 11 #[.agg #[.int .u32 s.n, .int .u32 s.d, .int .u32 s.q, .int .u32 s.r, .int .i64 s.l]] w fun e w' => e = .returned (.agg #[.int .u32 (stepD s).n, .int .u32 (stepD s).d, .int .u32 (stepD s).q, .int .u32 (stepD s).r, .int .i64 (stepD s).l]) ∧ Below w.heap.size w w' := by
  obtain ⟨⟨n0, n1⟩, ⟨d0, d1⟩, ⟨q0, q1⟩, ⟨r0, r1⟩⟩ := h
  obtain ⟨b0, b1⟩ := lf_bounds s.l
  by_cases c1 : lf s.l = 0
  · have hs : stepD s = ⟨s.n, s.d, s.q, s.r, 0⟩ := by unfold stepD; rw [if_pos c1]
    rw [hs]
    clear hs
    go_enter Try.func11, Try.ntmps11
    go_wp2_with (go_at_call 20; refine (rleft_any _ _).mono ?_; rintro e w' ⟨rfl, rfl⟩)
    refine bodyPost_ret (results_cell_row rfl _ _ (w.heap.size + 1) 24 _ (0, 0) _ rfl (heap_alloc2_new _ _ _) Try.underlying24 rfl (by kernel_rfl)) rfl ⟨rfl, ?_⟩
    exact ((Below.refl _ _).alloc (Nat.le_refl _) _).alloc (by simp) _
  · obtain ⟨L, hL⟩ : ∃ L, lf s.l = L + 1 := ⟨lf s.l - 1, by omega⟩
    have l0 : 0 ≤ L := by omega
    have l1 : L < 32 := by omega
    have m1 : (L + 1 == 0) = false := by rw [beq_eq_false_iff_ne]; omega
    obtain ⟨X, hX⟩ : ∃ X, s.n / 2 ^ L.toNat = X := ⟨_, rfl⟩
    have x0 : 0 ≤ X := hX ▸ pow_nn n0 _
    have x1 : X < 4294967296 := by have := Int.ediv_le_self (2 ^ L.toNat) n0; rw [hX] at this; omega
    obtain ⟨B, hB⟩ : ∃ B, X % 2 = B := ⟨_, rfl⟩
    have e1 : bits .and .u32 X 1 = B := by rw [and1 x0 x1, hB]
    have y0 : 0 ≤ B := by omega
    have y1 : B ≤ 1 := by omega
    have e2 : bits .or .u64 (s.r * 2) B = s.r * 2 + B := or1_64 (by omega) (by omega) (by omega) y0 y1
    have e3 : bits .or .u32 (s.q * 2 % 4294967296) 1 = s.q * 2 % 4294967296 + 1 := or1_32 (by omega) (by omega) (by omega) (by omega) (by omega)
    have hbz : bitZ s.n (lf s.l - 1).toNat = B := by rw [hL, show L + 1 - 1 = L by omega]; unfold bitZ; rw [hX, hB]
    have hbit : ∀ w, Calls Try.prog 21 #[.int .u32 s.n, .int .i64 L] w fun e w' => e = .returned (.int .u64 B) ∧ w' = w := fun w => (bit_any s.n L w n0 n1 (by omega)).mono fun e w' ⟨he, hw⟩ => ⟨by rw [he]; unfold bitZ; rw [hX, hB], hw.symm⟩
    have HBIT := Lib.hid hbit
    clear hbit
    by_cases c2 : s.d ≤ s.r * 2 + B
    · have hs : stepD s = ⟨s.n, s.d, s.q * 2 % 4294967296 + 1, (s.r * 2 + B - s.d) % 4294967296, L⟩ := by
        unfold stepD; rw [if_neg c1, hbz, if_pos c2, hL, show L + 1 - 1 = L by omega]
      rw [hs]
      have e4 : IntKind.u64.wrap (s.r * 2 + B - s.d) = s.r * 2 + B - s.d := wrap_u64_in (by omega) (by omega)
      clear hs hbz hB c1
      go_enter Try.func11, Try.ntmps11
      go_wp2_with (go_at_call 20; refine (rleft_any _ _).mono ?_; rintro e w' ⟨rfl, rfl⟩)
      go_quiet ((go_at_call 21; exact Calls.quiet_of_same (HBIT.out _)))
      rw [drewN_two]
      have hz : w.heap.size = (w.drewN nq).heap.size := rfl
      have HQ : Hid (Below w.heap.size w (w.drewN nq)) := below_dn (Below.refl _ _) nq
      generalize w.drewN nq = wq at hz HQ ⊢
      go_wp2
      refine bodyPost_ret (results_cell_row rfl _ _ (wq.heap.size + 1) 24 _ (0, 0) _ (by rw [← hz]; rfl) (heap_alloc2_new _ _ _) Try.underlying24 rfl (by kernel_rfl)) rfl ⟨ret_dv (by omega) (by omega), ?_⟩
      exact (HQ.out.alloc (by rw [hz]; exact Nat.le_refl _) _).alloc (by rw [hz]; simp) _
    · have hs : stepD s = ⟨s.n, s.d, s.q * 2 % 4294967296, s.r * 2 + B, L⟩ := by
        unfold stepD; rw [if_neg c1, hbz, if_neg c2, hL, show L + 1 - 1 = L by omega, Int.emod_eq_of_lt (a := s.r * 2 + B) (by omega) (by omega)]
      rw [hs]
      clear hs hbz hB c1
      go_enter Try.func11, Try.ntmps11
      go_wp2_with (go_at_call 20; refine (rleft_any _ _).mono ?_; rintro e w' ⟨rfl, rfl⟩)
      go_quiet ((go_at_call 21; exact Calls.quiet_of_same (HBIT.out _)))
      rw [drewN_two]
      have hz : w.heap.size = (w.drewN nq).heap.size := rfl
      have HQ : Hid (Below w.heap.size w (w.drewN nq)) := below_dn (Below.refl _ _) nq
      generalize w.drewN nq = wq at hz HQ ⊢
      go_wp2
      refine bodyPost_ret (results_cell_row rfl _ _ (wq.heap.size + 1) 24 _ (0, 0) _ (by rw [← hz]; rfl) (heap_alloc2_new _ _ _) Try.underlying24 rfl (by kernel_rfl)) rfl ⟨ret_dv (by omega) (by omega), ?_⟩
      exact (HQ.out.alloc (by rw [hz]; exact Nat.le_refl _) _).alloc (by rw [hz]; simp) _

end Go.Proofs.Ytimcdkmbiggapaa.My
