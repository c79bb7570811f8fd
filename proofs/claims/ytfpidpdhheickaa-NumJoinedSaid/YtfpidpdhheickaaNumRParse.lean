/- Walks over the reference: the number of any text. -/
import Derived.Test.YtfpidpdhheickaaNumParse2
set_option linter.unusedVariables false
namespace Go.Proofs.Ytfpidpdhheickaa.My
open Go.RowKit
/-- The number of any text, or what is wrong. -/
def parseV (s : ByteArray) : Int × Int := if (hexV s).2 = true then ((hexV s).1, 0) else if 0 < s.size ∧ bAt s 0 = 45 then tailV true (s.extract 1 s.size) else tailV false s
theorem hexV_no {s : ByteArray} (h : ¬ (hexV s).2 = true) : hexV s = (0, false) := by
  have key : ∀ (b i : Nat) (n : Int), ¬ (hexR s b i n).2 = true → hexR s b i n = (0, false) := by
    intro b
    induction b with
    | zero => intro i n h; exact absurd rfl h
    | succ b ih =>
      intro i n h
      unfold hexR at h ⊢
      split
      · rfl
      · rename_i q
        rw [if_neg q] at h
        exact ih _ _ h
  unfold hexV at h ⊢
  split
  · rename_i q
    rw [if_pos q] at h
    exact key _ _ _ h
  · rfl
theorem parse_none (s : ByteArray) (w : World) (h : s.size = 0) : Calls Try.prog 14 #[.string s] w fun e w' => e = .returned (.tuple #[.int .i64 0, .int .i64 2]) ∧ Below w.heap.size w w' := by
  have hm : s.size ≤ 9223372036854775807 := by omega
  have hx : hexV s = (0, false) := by unfold hexV; rw [if_neg (fun q => by have := q.1; omega)]
  have e1 : (s.toList == []) = true := by rw [is_none, h]; rfl
  have HB := startB w
  go_enter Try.func14, Try.ntmps14
  go_wp2_with (go_at_call 23; refine (hexP_any _ _ hm).mono ?_; rintro e w1 ⟨rfl, hb⟩; rw [hx]; replace HB := keepB HB hb; clear hb)
  go_ret2
  exact ⟨rfl, HB.out.1⟩
theorem parse_any (s : ByteArray) (w : World) (hm : s.size ≤ 9223372036854775807) : Calls Try.prog 14 #[.string s] w fun e w' => e = .returned (.tuple #[.int .i64 (parseV s).1, .int .i64 (parseV s).2]) ∧ Below w.heap.size w w' := by
  unfold parseV
  split
  · rename_i h
    refine parse_hex s w ((hexV s).1, 0) hm (hexV s).1 ?_ rfl
    rw [← h]
  · rename_i h
    have hx := hexV_no h
    split
    · rename_i q
      have hz : (s.extract 1 s.size).size = s.size - 1 := by rw [ByteArray.size_extract]; omega
      by_cases h1 : (s.extract 1 s.size).size = 0
      · exact parse_m_none s w _ hm hx q.1 q.2 _ rfl rfl h1
      · by_cases h2 : bAt (s.extract 1 s.size) 0 = 48
        · exact parse_m_nought s w _ hm hx q.1 q.2 _ rfl rfl (by omega) h2
        · exact parse_m_ok s w _ hm hx q.1 q.2 _ rfl rfl (by omega) h2
    · rename_i q
      by_cases h1 : s.size = 0
      · have : tailV false s = (0, 2) := by unfold tailV; rw [if_pos (.inl h1)]
        rw [this]
        exact parse_none s w h1
      · have q0 : bAt s 0 ≠ 45 := fun r => q ⟨by omega, r⟩
        by_cases h2 : bAt s 0 = 48
        · by_cases h3 : 1 < s.size
          · exact parse_p_nought s w _ hm hx (by omega) q0 rfl (by omega) h2 h3
          · exact parse_p_ok1 s w _ hm hx (by omega) q0 rfl h2 (by omega)
        · exact parse_p_ok2 s w _ hm hx (by omega) q0 rfl h2
theorem dec_none (s : ByteArray) (b : Bool) (w : World) (h : s.size = 0) (hb : b = false) : Calls Try.prog 25 #[.string s] w fun e w' => e = .returned (.bool b) ∧ w = w' := by
  subst hb
  have e1 : (s.toList == []) = true := by rw [is_none, h]; rfl
  go_enter Try.func25, Try.ntmps25; go_wp2
  go_ret
  exact ⟨rfl, rfl⟩
theorem dec_nought (s : ByteArray) (b : Bool) (w : World) (hm : s.size ≤ 9223372036854775807) (h : bAt s 0 = 48) (h1 : 1 < s.size) (hb : b = false) : Calls Try.prog 25 #[.string s] w fun e w' => e = .returned (.bool b) ∧ w = w' := by
  subst hb
  have eb : ∀ i (h : i < s.size), (s[i]'h).toNat = bAt s i := fun i h => bAt_eq h
  have e1 : (s.toList == []) = false := by rw [is_none]; exact beq_eq_false_iff_ne.2 (by omega)
  go_enter Try.func25, Try.ntmps25; go_wp2
  go_ret
  exact ⟨rfl, rfl⟩
theorem dec_one (s : ByteArray) (b : Bool) (w : World) (hm : s.size ≤ 9223372036854775807) (h48 : bAt s 0 = 48) (h1 : s.size = 1) (hb : b = decide (digs s)) : Calls Try.prog 25 #[.string s] w fun e w' => e = .returned (.bool b) ∧ w = w' := by
  have eb : ∀ i (h : i < s.size), (s[i]'h).toNat = bAt s i := fun i h => bAt_eq h
  have e1 : (s.toList == []) = false := by rw [is_none]; exact beq_eq_false_iff_ne.2 (by omega)
  have HQ := Lib.hid hb
  clear hb
  go_enter Try.func25, Try.ntmps25
  go_wp2
  clear h48
  go_loop [3] (fun i => ∃ k : Nat, k ≤ s.size ∧ i = .int .i64 k ∧ Hid (∀ i, i < k → 48 ≤ bAt s i ∧ bAt s i ≤ 57)) (fun i => s.size - (intOf i).toNat)
  case atStart => exact ⟨0, Nat.zero_le _, rfl, fun i hi => by omega⟩
  case round =>
    obtain ⟨k, hkt, rfl, HD⟩ := hrel
    by_cases hk : k < s.size
    · obtain ⟨c, hc⟩ : ∃ c, bAt s k = c := ⟨_, rfl⟩
      by_cases hdg : 48 ≤ c ∧ c ≤ 57
      · obtain ⟨g1, g2⟩ := hdg
        go_wp2
        go_round
        case rel => exact ⟨k + 1, by omega, by go_num, fun i hi => by
          by_cases h : i < k
          · exact HD.out i h
          · rw [show i = k by omega, hc]; exact ⟨g1, g2⟩⟩
        case measure => simp [intOf]; omega
      · have hb : b = false := by rw [HQ.out]; exact decide_eq_false (fun h => hdg (by rw [← hc]; exact h k hk))
        subst hb
        rcases (show c < 48 ∨ 57 < c by omega) with q | q
        · clear hdg
          go_wp2
          go_ret
          exact ⟨rfl, rfl⟩
        · clear hdg
          go_wp2
          go_ret
          exact ⟨rfl, rfl⟩
    · have hb : b = true := by rw [HQ.out]; exact decide_eq_true (fun i hi => HD.out i (by omega))
      subst hb
      go_wp2
      go_ret
      exact ⟨rfl, rfl⟩
theorem dec_more (s : ByteArray) (b : Bool) (w : World) (hm : s.size ≤ 9223372036854775807) (h48 : bAt s 0 ≠ 48) (h1 : 0 < s.size) (hb : b = decide (digs s)) : Calls Try.prog 25 #[.string s] w fun e w' => e = .returned (.bool b) ∧ w = w' := by
  have eb : ∀ i (h : i < s.size), (s[i]'h).toNat = bAt s i := fun i h => bAt_eq h
  have e1 : (s.toList == []) = false := by rw [is_none]; exact beq_eq_false_iff_ne.2 (by omega)
  have q : ((bAt s 0 : Int) == 48) = false := beq_eq_false_iff_ne.2 (by omega)
  clear h48
  have HQ := Lib.hid hb
  clear hb
  go_enter Try.func25, Try.ntmps25
  go_wp2
  clear q
  go_loop [3] (fun i => ∃ k : Nat, k ≤ s.size ∧ i = .int .i64 k ∧ Hid (∀ i, i < k → 48 ≤ bAt s i ∧ bAt s i ≤ 57)) (fun i => s.size - (intOf i).toNat)
  case atStart => exact ⟨0, Nat.zero_le _, rfl, fun i hi => by omega⟩
  case round =>
    obtain ⟨k, hkt, rfl, HD⟩ := hrel
    by_cases hk : k < s.size
    · obtain ⟨c, hc⟩ : ∃ c, bAt s k = c := ⟨_, rfl⟩
      by_cases hdg : 48 ≤ c ∧ c ≤ 57
      · obtain ⟨g1, g2⟩ := hdg
        go_wp2
        go_round
        case rel => exact ⟨k + 1, by omega, by go_num, fun i hi => by
          by_cases h : i < k
          · exact HD.out i h
          · rw [show i = k by omega, hc]; exact ⟨g1, g2⟩⟩
        case measure => simp [intOf]; omega
      · have hb : b = false := by rw [HQ.out]; exact decide_eq_false (fun h => hdg (by rw [← hc]; exact h k hk))
        subst hb
        rcases (show c < 48 ∨ 57 < c by omega) with q | q
        · clear hdg
          go_wp2
          go_ret
          exact ⟨rfl, rfl⟩
        · clear hdg
          go_wp2
          go_ret
          exact ⟨rfl, rfl⟩
    · have hb : b = true := by rw [HQ.out]; exact decide_eq_true (fun i hi => HD.out i (by omega))
      subst hb
      go_wp2
      go_ret
      exact ⟨rfl, rfl⟩
theorem dec_any (s : ByteArray) (w : World) (hm : s.size ≤ 9223372036854775807) : Calls Try.prog 25 #[.string s] w fun e w' => e = .returned (.bool (!decide (badV false s))) ∧ w = w' := by
  by_cases h0 : s.size = 0
  · exact dec_none s _ w h0 (by rw [decide_eq_true (show badV false s from .inl h0)]; rfl)
  · have key : ∀ h : ¬ (bAt s 0 = 48 ∧ 1 < s.size), (!decide (badV false s)) = decide (digs s) := fun h => by
      rw [Bool.eq_iff_iff, Bool.not_eq_true', decide_eq_false_iff_not, decide_eq_true_iff]
      constructor
      · intro q
        by_cases g : digs s
        · exact g
        · exact absurd (.inr (.inr g)) q
      · rintro g (q | q | q)
        · exact h0 q
        · exact h ⟨q.1, q.2.resolve_left (by decide)⟩
        · exact q g
    by_cases h1 : bAt s 0 = 48
    · by_cases h2 : 1 < s.size
      · exact dec_nought s _ w hm h1 h2 (by rw [decide_eq_true (show badV false s from .inr (.inl ⟨h1, .inr h2⟩))]; rfl)
      · exact dec_one s _ w hm h1 (by omega) (key (fun q => h2 q.2))
    · exact dec_more s _ w hm h1 (by omega) (key (fun q => h1 q.1))
theorem decR_ge {s : ByteArray} (hd : digs s) : ∀ (b i : Nat) (u : Int), 0 ≤ u → i + b ≤ s.size → u ≤ decR s b i u
  | 0, _, u, _, _ => Int.le_refl u
  | b + 1, i, u, h0, h1 => by
    have h := hd i (by omega)
    have := decR_ge hd b (i + 1) (10 * u + ((bAt s i : Int) - 48)) (by omega) (by omega)
    unfold decR
    omega
theorem rparse_m (s : ByteArray) (w : World) (R : Int × Int) (hm : s.size ≤ 9223372036854775807) (hx : hexV s = (0, false)) (h0 : 0 < s.size) (q0 : bAt s 0 = 45) (d : ByteArray) (ht : s.extract 1 s.size = d) (hR : tailV true d = R) : Calls Try.prog 15 #[.string s] w fun e w' => e = .returned (.tuple #[.int .i64 R.1, .int .i64 R.2]) ∧ w = w' := by
  have eb : ∀ i (h : i < s.size), (s[i]'h).toNat = bAt s i := fun i h => bAt_eq h
  have hz : d.size = s.size - 1 := by rw [← ht, ByteArray.size_extract]; omega
  have eb2 : ∀ i (h : i < d.size), (d[i]'h).toNat = bAt d i := fun i h => bAt_eq h
  have hm2 : d.size ≤ 9223372036854775807 := by omega
  by_cases hb : badV false d
  · have hR' : R = (0, 2) := by
      rw [← hR]; unfold tailV; rw [if_pos]
      rcases hb with q | q | q
      · exact .inl q
      · exact .inr (.inl ⟨q.1, .inr (q.2.resolve_left (by decide))⟩)
      · exact .inr (.inr q)
    subst hR'
    have e3 : decide (badV false d) = true := decide_eq_true hb
    clear hR hb
    go_enter Try.func15, Try.ntmps15
    go_wp2_with (first | (go_at_call 24; refine (rhex_any _ _ hm).mono ?_; rintro e w1 ⟨rfl, rfl⟩; rw [hx]) | (go_at_call 25; refine (dec_any _ _ hm2).mono ?_; rintro e w1 ⟨rfl, rfl⟩))
    go_ret2
    exact ⟨rfl, rfl⟩
  have e3 : decide (badV false d) = false := decide_eq_false hb
  have HBV := Lib.hid hb
  clear hb
  have hdz : 0 < d.size := by
    rcases Nat.eq_zero_or_pos d.size with q | q
    · exact absurd (.inl q) HBV.out
    · exact q
  by_cases h48 : bAt d 0 = 48
  · have hd1 : d.size = 1 := by
      by_cases q : 1 < d.size
      · exact absurd (.inr (.inl ⟨h48, .inr q⟩)) HBV.out
      · omega
    have e4 : (d.toList == [48]) = true := by rw [is_one, h48, hd1]; rfl
    have hR' : R = (0, 2) := by rw [← hR]; unfold tailV; rw [if_pos (.inr (.inl ⟨h48, .inl rfl⟩))]
    subst hR'
    clear hR h48
    go_enter Try.func15, Try.ntmps15
    go_wp2_with (first | (go_at_call 24; refine (rhex_any _ _ hm).mono ?_; rintro e w1 ⟨rfl, rfl⟩; rw [hx]) | (go_at_call 25; refine (dec_any _ _ hm2).mono ?_; rintro e w1 ⟨rfl, rfl⟩))
    go_ret2
    exact ⟨rfl, rfl⟩
  have e4 : (d.toList == [48]) = false := by
    rw [is_one, Bool.and_eq_false_iff]; exact .inr (beq_eq_false_iff_ne.2 h48)
  have hnb : ¬ badV true d := fun h => by
    rcases h with h | h | h
    · omega
    · exact h48 h.1
    · exact HBV.out (.inr (.inr h))
  by_cases h19 : 19 < d.size
  · have hR' : R = (0, 3) := by rw [← hR]; unfold tailV; rw [if_neg hnb, if_pos h19]
    subst hR'
    clear hR hnb h48
    go_enter Try.func15, Try.ntmps15
    go_wp2_with (first | (go_at_call 24; refine (rhex_any _ _ hm).mono ?_; rintro e w1 ⟨rfl, rfl⟩; rw [hx]) | (go_at_call 25; refine (dec_any _ _ hm2).mono ?_; rintro e w1 ⟨rfl, rfl⟩))
    go_ret2
    exact ⟨rfl, rfl⟩
  · obtain ⟨V, hV⟩ : ∃ V, decR d d.size 0 0 = V := ⟨_, rfl⟩
    have hR' : valV true V = R := by rw [← hR]; unfold tailV; rw [if_neg hnb, if_neg h19, hV]
    have hdg : digs d := by
      by_cases g : digs d
      · exact g
      · exact absurd (.inr (.inr g)) hnb
    have HR := Lib.hid hR'
    have HV := Lib.hid hV
    have HDG := Lib.hid hdg
    clear hR hnb hR' hV hdg h48
    go_enter Try.func15, Try.ntmps15
    go_wp2_with (first | (go_at_call 24; refine (rhex_any _ _ hm).mono ?_; rintro e w1 ⟨rfl, rfl⟩; rw [hx]) | (go_at_call 25; refine (dec_any _ _ hm2).mono ?_; rintro e w1 ⟨rfl, rfl⟩))
    clear e3 e4
    go_loop [8, 9] (fun n i => ∃ (j : Nat) (U : Int), j ≤ d.size ∧ i = .int .i64 j ∧ n = .int .i64 (-U) ∧ 0 ≤ U ∧ U ≤ 9223372036854775808 ∧ Hid (decR d (d.size - j) j U = V)) (fun _ i => d.size - (intOf i).toNat)
    case atStart => exact ⟨0, 0, Nat.zero_le _, rfl, rfl, Int.le_refl _, by decide, by show decR d (d.size - 0) 0 0 = V; exact HV.out⟩
    case round =>
      obtain ⟨j, U, hjt, rfl, rfl, u0, u2, HX⟩ := hrel
      by_cases hk : j < d.size
      · obtain ⟨c, hc⟩ : ∃ c, bAt d j = c := ⟨_, rfl⟩
        obtain ⟨g1, g2⟩ := HDG.out j hk
        rw [hc] at g1 g2
        have hx2 := HX.out
        rw [show d.size - j = (d.size - (j + 1)) + 1 by omega, decR, hc] at hx2
        clear HX
        obtain ⟨Q, hQ⟩ : ∃ Q : Int, (-9223372036854775808 + ((c : Int) - 48)).tdiv 10 = Q := ⟨_, rfl⟩
        have hq : (c ≤ 56 → Q = -922337203685477580) ∧ (c = 57 → Q = -922337203685477579) := by
          rw [← hQ]
          have e : (-9223372036854775808 + ((c : Int) - 48)) = -(9223372036854775808 - ((c : Int) - 48)) := by omega
          rw [e, Int.neg_tdiv, Int.tdiv_eq_ediv_of_nonneg (by omega)]
          constructor <;> intro _ <;> omega
        have q3 := hq.1
        have q4 := hq.2
        have q5 : -922337203685477580 ≤ Q := by omega
        have q6 : Q ≤ -922337203685477579 := by omega
        clear hq
        by_cases ho : -U < Q
        · have ho2 : 9223372036854775808 < 10 * U + ((c : Int) - 48) := by omega
          clear q3 q4
          have h3 : valV true V = (0, 3) := by
            have := decR_ge HDG.out (d.size - (j + 1)) (j + 1) (10 * U + ((c : Int) - 48)) (by omega) (by omega)
            rw [hx2] at this
            unfold valV
            rw [if_pos rfl, if_neg (by omega)]
          have hR' : R = (0, 3) := by rw [← HR.out, h3]
          subst hR'
          clear h3 hx2
          go_wp2
          go_ret2
          exact ⟨rfl, rfl⟩
        · have ho2 : 10 * U + ((c : Int) - 48) ≤ 9223372036854775808 := by omega
          have HX := Lib.hid hx2
          have ho3 : ¬ -U < Q := ho
          clear q3 q4 hx2 ho
          go_wp2
          go_round
          case rel => exact ⟨j + 1, 10 * U + ((c : Int) - 48), by omega, by go_num, by first | go_num | (congr 1; omega), by omega, ho2, HX⟩
          case measure => simp [intOf]; omega
      · have hx2 := HX.out
        rw [show d.size - j = 0 by omega, decR] at hx2
        subst hx2
        clear HX
        have hR' : R = (-U, 0) := by rw [← HR.out]; unfold valV; rw [if_pos rfl, if_pos u2]
        subst hR'
        go_wp2
        go_ret2
        exact ⟨rfl, rfl⟩
theorem rparse_p (s : ByteArray) (w : World) (R : Int × Int) (hm : s.size ≤ 9223372036854775807) (hx : hexV s = (0, false)) (q0 : ¬ (0 < s.size ∧ bAt s 0 = 45)) (hR : tailV false s = R) : Calls Try.prog 15 #[.string s] w fun e w' => e = .returned (.tuple #[.int .i64 R.1, .int .i64 R.2]) ∧ w = w' := by
  have eb : ∀ i (h : i < s.size), (s[i]'h).toNat = bAt s i := fun i h => bAt_eq h
  have hm2 := hm
  by_cases hb : badV false s
  · have hR' : R = (0, 2) := by
      rw [← hR]; unfold tailV; rw [if_pos]
      rcases hb with q | q | q
      · exact .inl q
      · exact .inr (.inl ⟨q.1, .inr (q.2.resolve_left (by decide))⟩)
      · exact .inr (.inr q)
    subst hR'
    have e3 : decide (badV false s) = true := decide_eq_true hb
    clear hR hb
    by_cases hz : 0 < s.size
    · have q1 : ((bAt s 0 : Int) == 45) = false := beq_eq_false_iff_ne.2 (fun q => q0 ⟨hz, by omega⟩)
      clear q0
      go_enter Try.func15, Try.ntmps15
      go_wp2_with (first | (go_at_call 24; refine (rhex_any _ _ hm).mono ?_; rintro e w1 ⟨rfl, rfl⟩; rw [hx]) | (go_at_call 25; refine (dec_any _ _ hm2).mono ?_; rintro e w1 ⟨rfl, rfl⟩))
      go_ret2
      exact ⟨rfl, rfl⟩
    · clear q0
      go_enter Try.func15, Try.ntmps15
      go_wp2_with (first | (go_at_call 24; refine (rhex_any _ _ hm).mono ?_; rintro e w1 ⟨rfl, rfl⟩; rw [hx]) | (go_at_call 25; refine (dec_any _ _ hm2).mono ?_; rintro e w1 ⟨rfl, rfl⟩))
      go_ret2
      exact ⟨rfl, rfl⟩
  have e3 : decide (badV false s) = false := decide_eq_false hb
  have HBV := Lib.hid hb
  clear hb
  have hdz : 0 < s.size := by
    rcases Nat.eq_zero_or_pos s.size with q | q
    · exact absurd (.inl q) HBV.out
    · exact q
  have hnb : ¬ badV false s := HBV.out
  have q1 : ((bAt s 0 : Int) == 45) = false := beq_eq_false_iff_ne.2 (fun q => q0 ⟨hdz, by omega⟩)
  clear q0
  by_cases h19 : 19 < s.size
  · have hR' : R = (0, 3) := by rw [← hR]; unfold tailV; rw [if_neg hnb, if_pos h19]
    subst hR'
    clear hR hnb 
    go_enter Try.func15, Try.ntmps15
    go_wp2_with (first | (go_at_call 24; refine (rhex_any _ _ hm).mono ?_; rintro e w1 ⟨rfl, rfl⟩; rw [hx]) | (go_at_call 25; refine (dec_any _ _ hm2).mono ?_; rintro e w1 ⟨rfl, rfl⟩))
    go_ret2
    exact ⟨rfl, rfl⟩
  · obtain ⟨V, hV⟩ : ∃ V, decR s s.size 0 0 = V := ⟨_, rfl⟩
    have hR' : valV false V = R := by rw [← hR]; unfold tailV; rw [if_neg hnb, if_neg h19, hV]
    have hdg : digs s := by
      by_cases g : digs s
      · exact g
      · exact absurd (.inr (.inr g)) hnb
    have HR := Lib.hid hR'
    have HV := Lib.hid hV
    have HDG := Lib.hid hdg
    clear hR hnb hR' hV hdg 
    go_enter Try.func15, Try.ntmps15
    go_wp2_with (first | (go_at_call 24; refine (rhex_any _ _ hm).mono ?_; rintro e w1 ⟨rfl, rfl⟩; rw [hx]) | (go_at_call 25; refine (dec_any _ _ hm2).mono ?_; rintro e w1 ⟨rfl, rfl⟩))
    clear e3 
    go_loop [8, 9] (fun n i => ∃ (j : Nat) (U : Int), j ≤ s.size ∧ i = .int .i64 j ∧ n = .int .i64 (-U) ∧ 0 ≤ U ∧ U ≤ 9223372036854775808 ∧ Hid (decR s (s.size - j) j U = V)) (fun _ i => s.size - (intOf i).toNat)
    case atStart => exact ⟨0, 0, Nat.zero_le _, rfl, rfl, Int.le_refl _, by decide, by show decR s (s.size - 0) 0 0 = V; exact HV.out⟩
    case round =>
      obtain ⟨j, U, hjt, rfl, rfl, u0, u2, HX⟩ := hrel
      by_cases hk : j < s.size
      · obtain ⟨c, hc⟩ : ∃ c, bAt s j = c := ⟨_, rfl⟩
        obtain ⟨g1, g2⟩ := HDG.out j hk
        rw [hc] at g1 g2
        have hx2 := HX.out
        rw [show s.size - j = (s.size - (j + 1)) + 1 by omega, decR, hc] at hx2
        clear HX
        obtain ⟨Q, hQ⟩ : ∃ Q : Int, (-9223372036854775808 + ((c : Int) - 48)).tdiv 10 = Q := ⟨_, rfl⟩
        have hq : (c ≤ 56 → Q = -922337203685477580) ∧ (c = 57 → Q = -922337203685477579) := by
          rw [← hQ]
          have e : (-9223372036854775808 + ((c : Int) - 48)) = -(9223372036854775808 - ((c : Int) - 48)) := by omega
          rw [e, Int.neg_tdiv, Int.tdiv_eq_ediv_of_nonneg (by omega)]
          constructor <;> intro _ <;> omega
        have q3 := hq.1
        have q4 := hq.2
        have q5 : -922337203685477580 ≤ Q := by omega
        have q6 : Q ≤ -922337203685477579 := by omega
        clear hq
        by_cases ho : -U < Q
        · have ho2 : 9223372036854775808 < 10 * U + ((c : Int) - 48) := by omega
          clear q3 q4
          have h3 : valV false V = (0, 3) := by
            have := decR_ge HDG.out (s.size - (j + 1)) (j + 1) (10 * U + ((c : Int) - 48)) (by omega) (by omega)
            rw [hx2] at this
            unfold valV
            rw [if_neg (by decide), if_neg (by omega)]
          have hR' : R = (0, 3) := by rw [← HR.out, h3]
          subst hR'
          clear h3 hx2
          go_wp2
          go_ret2
          exact ⟨rfl, rfl⟩
        · have ho2 : 10 * U + ((c : Int) - 48) ≤ 9223372036854775808 := by omega
          have HX := Lib.hid hx2
          have ho3 : ¬ -U < Q := ho
          clear q3 q4 hx2 ho
          go_wp2
          go_round
          case rel => exact ⟨j + 1, 10 * U + ((c : Int) - 48), by omega, by go_num, by first | go_num | (congr 1; omega), by omega, ho2, HX⟩
          case measure => simp [intOf]; omega
      · have hx2 := HX.out
        rw [show s.size - j = 0 by omega, decR] at hx2
        subst hx2
        clear HX
        by_cases hv : U = 9223372036854775808
        · have hR' : R = (0, 3) := by rw [← HR.out]; unfold valV; rw [if_neg (by decide), if_neg (by omega)]
          subst hR'
          subst hv
          go_wp2
          go_ret2
          exact ⟨rfl, rfl⟩
        · have hR' : R = (U, 0) := by rw [← HR.out]; unfold valV; rw [if_neg (by decide), if_pos (by omega)]
          have ev : (-U == -9223372036854775808) = false := beq_eq_false_iff_ne.2 (by omega)
          have ew : wrap64 (-(-U)) = U := by unfold wrap64; omega
          subst hR'
          have hu3 : U < 9223372036854775808 := by omega
          clear hv
          go_wp2
          go_ret2
          refine ⟨?_, rfl⟩
          first
            | rfl
            | (apply ret_tup; omega)
theorem rparse_hex (s : ByteArray) (w : World) (hm : s.size ≤ 9223372036854775807) (v : Int) (hx : hexV s = (v, true)) : Calls Try.prog 15 #[.string s] w fun e w' => e = .returned (.tuple #[.int .i64 v, .int .i64 0]) ∧ w = w' := by
  go_enter Try.func15, Try.ntmps15
  go_wp2_with (go_at_call 24; refine (rhex_any _ _ hm).mono ?_; rintro e w1 ⟨rfl, rfl⟩; rw [hx])
  go_ret2
  exact ⟨rfl, rfl⟩
theorem rparse_any (s : ByteArray) (w : World) (hm : s.size ≤ 9223372036854775807) : Calls Try.prog 15 #[.string s] w fun e w' => e = .returned (.tuple #[.int .i64 (parseV s).1, .int .i64 (parseV s).2]) ∧ w = w' := by
  unfold parseV
  split
  · rename_i h
    exact rparse_hex s w hm (hexV s).1 (by rw [← h])
  · rename_i h
    have hx := hexV_no h
    split
    · rename_i q
      exact rparse_m s w _ hm hx q.1 q.2 _ rfl rfl
    · rename_i q
      exact rparse_p s w _ hm hx q rfl
end Go.Proofs.Ytfpidpdhheickaa.My
