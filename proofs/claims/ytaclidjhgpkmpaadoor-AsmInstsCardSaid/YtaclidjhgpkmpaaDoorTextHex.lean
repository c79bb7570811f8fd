/- Walks: the digits of base 16 and the number behind 0x. -/
import Derived.Test.YtaclidjhgpkmpaaDoorStrWords
set_option linter.unusedVariables false
namespace Go.Proofs.YtaclidjhgpkmpaaDoor.My
open Go.RowKit
/-- The value of a digit of base 16; below 0: none. -/
def hv (c : Int) : Int := if 48 ≤ c ∧ c ≤ 57 then c - 48 else if 97 ≤ c ∧ c ≤ 102 then c - 87 else -1
theorem hv_lt (c : Int) : hv c < 16 := by unfold hv; split; omega; split <;> omega
theorem nibble_no (c : Int) (w : World) (c0 : 0 ≤ c) (c1 : c ≤ 2147483647) (h : hv c < 0) : Calls Tryd.prog 89 #[.int .i32 c] w fun e w' => e = .returned (.tuple #[.int .i64 0, .bool false]) ∧ w = w' := by
  unfold hv at h
  rcases (show c < 48 ∨ (57 < c ∧ c < 97) ∨ 102 < c by split at h; omega; split at h <;> omega) with q | ⟨q, r⟩ | q
  all_goals
    clear h
    go_enter Tryd.func89, Tryd.ntmps89
    go_wp2
    go_ret2
    exact ⟨rfl, rfl⟩
theorem nibble_yes (c v : Int) (w : World) (c1 : c ≤ 2147483647) (hc : hv c = v) (h : 0 ≤ v) : Calls Tryd.prog 89 #[.int .i32 c] w fun e w' => e = .returned (.tuple #[.int .i64 v, .bool true]) ∧ w = w' := by
  unfold hv at hc
  rcases (show (48 ≤ c ∧ c ≤ 57 ∧ v = c - 48) ∨ (97 ≤ c ∧ c ≤ 102 ∧ v = c - 97 + 10) by split at hc; omega; split at hc <;> omega) with ⟨q, r, rfl⟩ | ⟨q, r, rfl⟩
  all_goals
    clear hc h
    go_enter Tryd.func89, Tryd.ntmps89
    go_wp2
    go_ret2
    exact ⟨rfl, rfl⟩
/-- The digits from place i on, so many of them, behind the number n. -/
def hexR (s : ByteArray) : Nat → Nat → Int → Int × Bool
  | 0, _, n => (n, true)
  | b + 1, i, n => if hv (bAt s i) < 0 then (0, false) else hexR s b (i + 1) (16 * n + hv (bAt s i))
theorem wraps_i64 (n : Int) (h₀ : 0 ≤ n) (h₁ : n < 2 ^ 63) : IntKind.i64.wrap n = n := by rw [IntKind.wrap_i64]; omega
theorem or_16 {N d : Int} (n0 : 0 ≤ N) (n1 : N < 4294967296) (d0 : 0 ≤ d) (d1 : d < 16) : bits .or .i64 (N * 16) d = N * 16 + d :=
  bits_join .i64 63 (by decide) wraps_i64 4 (N * 16) d (by omega) (by omega) (by omega) d0 (by omega) (by omega)
theorem pow_16 {k : Nat} (h : k ≤ 8) : (16 : Int) ^ k ≤ 4294967296 := by
  have := Nat.pow_le_pow_right (n := 16) (by decide) h
  have h2 : ((16 ^ k : Nat) : Int) ≤ ((16 ^ 8 : Nat) : Int) := Int.ofNat_le.2 this
  have h3 : ((16 ^ k : Nat) : Int) = (16 : Int) ^ k := by rw [Int.natCast_pow]; rfl
  rw [h3] at h2
  exact h2
/-- The number behind 0x, and whether it is one. -/
def okX (s : ByteArray) : Prop := 3 ≤ s.size ∧ s.size ≤ 10 ∧ bAt s 0 = 48 ∧ bAt s 1 = 120
theorem hexP_no (s : ByteArray) (w : World) (h : ¬ okX s) (hm : s.size ≤ 9223372036854775807) : Calls Tryd.prog 84 #[.string s] w fun e w' => e = .returned (.tuple #[.int .i64 0, .bool false]) ∧ w = w' := by
  by_cases h1 : s.size < 3
  · clear h
    go_enter Tryd.func84, Tryd.ntmps84
    go_wp2
    go_ret2
    exact ⟨rfl, rfl⟩
  by_cases h2 : 10 < s.size
  · clear h
    go_enter Tryd.func84, Tryd.ntmps84
    go_wp2
    go_ret2
    exact ⟨rfl, rfl⟩
  have e : ((s.extract 0 2).toList == [48, 120]) = false := by
    rw [is_two (by omega), Bool.and_eq_false_iff, beq_eq_false_iff_ne, beq_eq_false_iff_ne]
    by_cases q : bAt s 0 = 48
    · exact .inr fun r => h ⟨by omega, by omega, q, r⟩
    · exact .inl q
  clear h
  go_enter Tryd.func84, Tryd.ntmps84
  go_wp2
  go_ret2
  exact ⟨rfl, rfl⟩
theorem hexP_yes (s : ByteArray) (w : World) (h : okX s) : Calls Tryd.prog 84 #[.string s] w fun e w' => e = .returned (.tuple #[.int .i64 (hexR s (s.size - 2) 2 0).1, .bool (hexR s (s.size - 2) 2 0).2]) ∧ Below w.heap.size w w' := by
  obtain ⟨h1, h2, q0, q1⟩ := h
  have e : ((s.extract 0 2).toList == [48, 120]) = true := by
    rw [is_two (by omega), q0, q1]; rfl
  clear q0 q1
  obtain ⟨R, hR⟩ : ∃ R, hexR s (s.size - 2) 2 0 = R := ⟨_, rfl⟩
  rw [hR]
  obtain ⟨t, ht⟩ : ∃ t, s.extract 2 s.size = t := ⟨_, rfl⟩
  have hz : t.size = s.size - 2 := by rw [← ht, ByteArray.size_extract]; omega
  have HT : Hid (∀ k, k < t.size → bAt t k = bAt s (k + 2)) := Lib.hid fun k hk => by rw [← ht, bAt_ext s (Nat.le_refl _) (by omega), Nat.add_comm]
  have HR := Lib.hid hR
  clear hR
  have HB := keepBa (startB w) (.stringIter t 0)
  have HI : Hid ((w.iter t 0).heap[w.heap.size]? = some (.stringIter t 0)) := World.iter_heap w t 0
  go_enter Tryd.func84, Tryd.ntmps84
  go_wp2
  go_loopw [4] (fun n wr => ∃ (k : Nat) (N : Int), k ≤ t.size ∧ n = .int .i64 N ∧ 0 ≤ N ∧ Hid (N < 16 ^ k) ∧ Hid (hexR s (t.size - k) (k + 2) N = R) ∧ Hid (wr.heap[w.heap.size]? = some (.stringIter t k)) ∧ Hid (Below w.heap.size w wr ∧ w.heap.size ≤ wr.heap.size)) (fun _ wr => t.size - wr.iterPos w.heap.size)
  case atStart => exact ⟨0, 0, Nat.zero_le _, rfl, Int.le_refl _, by show (0 : Int) < 16 ^ 0; decide, by show hexR s (t.size - 0) 2 0 = R; rw [hz]; exact HR.out, HI, HB⟩
  case round =>
    clear HI HB e ht
    obtain ⟨k, N, hkt, rfl, n0, HN, HX, HI, HB⟩ := hrel
    have HI0 := HI
    by_cases hk : k < t.size
    · obtain ⟨c, hc⟩ : ∃ c, bAt t k = c := ⟨_, rfl⟩
      have HC : Hid (c = bAt t k) := Lib.hid hc.symm
      have hs : bAt s (k + 2) = c := (HT.out k hk).symm.trans hc
      have hx := HX.out
      rw [show t.size - k = (t.size - (k + 1)) + 1 by omega, hexR, hs] at hx
      have HS := Lib.hid hs
      have c1 := bAt_lt t k
      rw [hc] at c1
      clear hc hs HX
      by_cases hd : hv c < 0
      · rw [if_pos hd] at hx
        subst hx
        by_cases hb : c < 128
        · go_wp2_with (first | (refine iterLow rfl _ rfl w.heap.size rfl HI.out hk (Eq.symm HC.out) hb ?_; intro w2 hi ho; replace HI := Lib.hid hi; replace HB := keepBo HB (Nat.le_refl _) ho; clear hi ho) | (go_at_call 89; refine (nibble_no _ _ (by omega) (by omega) hd).mono ?_; rintro e w3 ⟨rfl, rfl⟩))
          go_ret2
          exact ⟨rfl, HB.out.1⟩
        · have hb : 128 ≤ bAt t k := by rw [← HC.out]; omega
          go_wp2_with (first | (refine iterHigh rfl _ rfl w.heap.size rfl HI.out hk hb ?_; intro r d w2 r1 r2 _ _ hi ho; replace HI := Lib.hid hi; replace HB := keepBo HB (Nat.le_refl _) ho; clear hi ho) | (go_at_call 89; refine (nibble_no _ _ (by omega) (by omega) (by unfold hv; rw [if_neg (by omega), if_neg (by omega)]; decide)).mono ?_; rintro e w3 ⟨rfl, rfl⟩))
          go_ret2
          exact ⟨rfl, HB.out.1⟩
      · rw [if_neg hd] at hx
        have hb : c < 128 := by unfold hv at hd; split at hd; omega; split at hd <;> omega
        obtain ⟨v, hv'⟩ : ∃ v, hv c = v := ⟨_, rfl⟩
        have v1 := hv_lt c
        rw [hv'] at hd hx v1
        have HX := Lib.hid hx
        have HV := Lib.hid hv'
        have n1 : N < 4294967296 := Int.lt_of_lt_of_le HN.out (pow_16 (by omega))
        have eor := or_16 n0 n1 (by omega) v1
        clear hx hv'
        go_wp2_with (first | (refine iterLow rfl _ rfl w.heap.size rfl HI.out hk (Eq.symm HC.out) hb ?_; intro w2 hi ho; replace HI := Lib.hid hi; replace HB := keepBo HB (Nat.le_refl _) ho; clear hi ho) | (go_at_call 89; refine (nibble_yes _ _ _ (by omega) HV.out (by omega)).mono ?_; rintro e w3 ⟨rfl, rfl⟩))
        go_roundw
        case rel => exact ⟨k + 1, 16 * N + v, by omega, by go_num, by omega, by show 16 * N + v < 16 ^ (k + 1); rw [Int.pow_succ]; have := HN.out; omega, HX, HI, HB⟩
        case measure => rw [pos_of HI.out, pos_of HI0.out]; omega
    · have hx := HX.out
      rw [show t.size - k = 0 by omega, hexR] at hx
      subst hx
      go_wp2_with (refine iterEnd rfl _ rfl w.heap.size rfl HI.out hk ?_)
      go_ret2
      exact ⟨rfl, HB.out.1⟩
end Go.Proofs.YtaclidjhgpkmpaaDoor.My
