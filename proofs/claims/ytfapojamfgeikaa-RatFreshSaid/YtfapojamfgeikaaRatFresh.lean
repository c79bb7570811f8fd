/- The law of fresh registers: a right map stays right when a register goes to a physical one that is nobody's. -/
import Derived.Test.YtfapojamfgeikaaRatPlain
import Derived.RegionTactic
namespace Go.Proofs.Ytfapojamfgeikaa.My
open Go.RowKit

theorem regB_no {r : Int} (h : regB r = false) : r < 1 ∨ 16 ≤ r := by
  have : ¬ (0 < r ∧ r < 16) := fun e => by rw [regB_iff.2 e] at h; cases h
  omega

set_option maxHeartbeats 4000000 in
theorem fresh_any (xs : List Int) (n r p : Int) (w : World) (hl : xs.length = 16) : Calls Try.prog 6 #[.agg (ma .i64 xs), .int .i64 n, .agg #[.int .i64 r, .int .i64 p]] w fun e w' => e = .returned (.bool true) ∧ Below w.heap.size w w' := by
  have HB : Hid (Below w.heap.size w ((w.alloc (.cells (ma .i64 xs) 23)).alloc (.cells #[.int .i64 r, .int .i64 p] 30)).drew ∧ w.heap.size ≤ ((w.alloc (.cells (ma .i64 xs) 23)).alloc (.cells #[.int .i64 r, .int .i64 p] 30)).drew.heap.size) := ⟨below_dn (((Below.refl _ _).alloc (Nat.le_refl _) _).alloc (by simp) _) 1, by simp; omega⟩
  have HA : Hid (((w.alloc (.cells (ma .i64 xs) 23)).alloc (.cells #[.int .i64 r, .int .i64 p] 30)).drew.heap[w.heap.size]? = some (.cells (ma .i64 xs) 23 (0, 0))) := heap_alloc2_old _ _ _
  have HL := Lib.hid hl
  have HL2 := Lib.hid (setM_len hl r p)
  clear hl
  cases c1 : rightB xs n with
  | false =>
    go_enter Try.func6, Try.ntmps6; go_wp2; go_region; all_goals (skip; go_wp2_with (first | (first | (refine wl_loadW rfl _ rfl _ rfl _ HL.out HA.out ?_) | (refine wl_loadW rfl _ rfl _ rfl _ HL2.out HX.out ?_)) | (go_at_call 14; refine (right_any _ _ _ (by first | exact HL.out | exact HL2.out)).mono ?_; rintro e w1 ⟨rfl, hb⟩; (replace HA := keepA HA hb; (try replace HX := keepA HX hb); replace HB := keepB HB hb; clear hb)) | (go_at_call 16; refine (uses_any _ _ _ (by first | exact HL.out | exact HL2.out)).mono ?_; rintro e w1 ⟨rfl, hb⟩; (replace HA := keepA HA hb; (try replace HX := keepA HX hb); replace HB := keepB HB hb; clear hb)) | (go_at_call 7; refine (get_any _ _ _ (by first | exact HL.out | exact HL2.out)).mono ?_; rintro e w1 ⟨rfl, hb⟩; (replace HA := keepA HA hb; (try replace HX := keepA HX hb); replace HB := keepB HB hb; clear hb)) | (go_at_call 9; refine (set_any _ _ _ _ HL.out).mono ?_; rintro e wS ⟨rfl, hb⟩; (replace HA := keepA HA hb; replace HB := keepB HB hb; clear hb)) | (refine wl_new rfl _ _ rfl rfl _ rfl HL2.out _ (by rfl) ?_; intro wX hx hb; have HX := Lib.hid hx; replace HA := keepA HA hb; replace HB := keepB HB hb; clear hx hb) | (go_at_call 13; refine (awake_any _).mono ?_; rintro e w1 ⟨rfl, hb⟩; (replace HA := keepA HA hb; (try replace HX := keepA HX hb); replace HB := keepB HB hb; clear hb))))
    all_goals (go_ret; exact ⟨rfl, HB.out.1⟩)
  | true =>
    by_cases c2 : p < 1
    · have d2 : decide (p < 1) = true := decide_eq_true c2
      go_enter Try.func6, Try.ntmps6; go_wp2; go_region; all_goals (skip; go_wp2_with (first | (first | (refine wl_loadW rfl _ rfl _ rfl _ HL.out HA.out ?_) | (refine wl_loadW rfl _ rfl _ rfl _ HL2.out HX.out ?_)) | (go_at_call 14; refine (right_any _ _ _ (by first | exact HL.out | exact HL2.out)).mono ?_; rintro e w1 ⟨rfl, hb⟩; (replace HA := keepA HA hb; (try replace HX := keepA HX hb); replace HB := keepB HB hb; clear hb)) | (go_at_call 16; refine (uses_any _ _ _ (by first | exact HL.out | exact HL2.out)).mono ?_; rintro e w1 ⟨rfl, hb⟩; (replace HA := keepA HA hb; (try replace HX := keepA HX hb); replace HB := keepB HB hb; clear hb)) | (go_at_call 7; refine (get_any _ _ _ (by first | exact HL.out | exact HL2.out)).mono ?_; rintro e w1 ⟨rfl, hb⟩; (replace HA := keepA HA hb; (try replace HX := keepA HX hb); replace HB := keepB HB hb; clear hb)) | (go_at_call 9; refine (set_any _ _ _ _ HL.out).mono ?_; rintro e wS ⟨rfl, hb⟩; (replace HA := keepA HA hb; replace HB := keepB HB hb; clear hb)) | (refine wl_new rfl _ _ rfl rfl _ rfl HL2.out _ (by rfl) ?_; intro wX hx hb; have HX := Lib.hid hx; replace HA := keepA HA hb; replace HB := keepB HB hb; clear hx hb) | (go_at_call 13; refine (awake_any _).mono ?_; rintro e w1 ⟨rfl, hb⟩; (replace HA := keepA HA hb; (try replace HX := keepA HX hb); replace HB := keepB HB hb; clear hb))))
      all_goals (go_ret; exact ⟨rfl, HB.out.1⟩)
    · have d2 : decide (p < 1) = false := decide_eq_false c2
      by_cases c3 : n ≤ p
      · have d3 : decide (n ≤ p) = true := decide_eq_true c3
        go_enter Try.func6, Try.ntmps6; go_wp2; go_region; all_goals (skip; go_wp2_with (first | (first | (refine wl_loadW rfl _ rfl _ rfl _ HL.out HA.out ?_) | (refine wl_loadW rfl _ rfl _ rfl _ HL2.out HX.out ?_)) | (go_at_call 14; refine (right_any _ _ _ (by first | exact HL.out | exact HL2.out)).mono ?_; rintro e w1 ⟨rfl, hb⟩; (replace HA := keepA HA hb; (try replace HX := keepA HX hb); replace HB := keepB HB hb; clear hb)) | (go_at_call 16; refine (uses_any _ _ _ (by first | exact HL.out | exact HL2.out)).mono ?_; rintro e w1 ⟨rfl, hb⟩; (replace HA := keepA HA hb; (try replace HX := keepA HX hb); replace HB := keepB HB hb; clear hb)) | (go_at_call 7; refine (get_any _ _ _ (by first | exact HL.out | exact HL2.out)).mono ?_; rintro e w1 ⟨rfl, hb⟩; (replace HA := keepA HA hb; (try replace HX := keepA HX hb); replace HB := keepB HB hb; clear hb)) | (go_at_call 9; refine (set_any _ _ _ _ HL.out).mono ?_; rintro e wS ⟨rfl, hb⟩; (replace HA := keepA HA hb; replace HB := keepB HB hb; clear hb)) | (refine wl_new rfl _ _ rfl rfl _ rfl HL2.out _ (by rfl) ?_; intro wX hx hb; have HX := Lib.hid hx; replace HA := keepA HA hb; replace HB := keepB HB hb; clear hx hb) | (go_at_call 13; refine (awake_any _).mono ?_; rintro e w1 ⟨rfl, hb⟩; (replace HA := keepA HA hb; (try replace HX := keepA HX hb); replace HB := keepB HB hb; clear hb))))
        all_goals (go_ret; exact ⟨rfl, HB.out.1⟩)
      · have d3 : decide (n ≤ p) = false := decide_eq_false c3
        cases c4 : usesB xs p with
        | true =>
          go_enter Try.func6, Try.ntmps6; go_wp2; go_region; all_goals (skip; go_wp2_with (first | (first | (refine wl_loadW rfl _ rfl _ rfl _ HL.out HA.out ?_) | (refine wl_loadW rfl _ rfl _ rfl _ HL2.out HX.out ?_)) | (go_at_call 14; refine (right_any _ _ _ (by first | exact HL.out | exact HL2.out)).mono ?_; rintro e w1 ⟨rfl, hb⟩; (replace HA := keepA HA hb; (try replace HX := keepA HX hb); replace HB := keepB HB hb; clear hb)) | (go_at_call 16; refine (uses_any _ _ _ (by first | exact HL.out | exact HL2.out)).mono ?_; rintro e w1 ⟨rfl, hb⟩; (replace HA := keepA HA hb; (try replace HX := keepA HX hb); replace HB := keepB HB hb; clear hb)) | (go_at_call 7; refine (get_any _ _ _ (by first | exact HL.out | exact HL2.out)).mono ?_; rintro e w1 ⟨rfl, hb⟩; (replace HA := keepA HA hb; (try replace HX := keepA HX hb); replace HB := keepB HB hb; clear hb)) | (go_at_call 9; refine (set_any _ _ _ _ HL.out).mono ?_; rintro e wS ⟨rfl, hb⟩; (replace HA := keepA HA hb; replace HB := keepB HB hb; clear hb)) | (refine wl_new rfl _ _ rfl rfl _ rfl HL2.out _ (by rfl) ?_; intro wX hx hb; have HX := Lib.hid hx; replace HA := keepA HA hb; replace HB := keepB HB hb; clear hx hb) | (go_at_call 13; refine (awake_any _).mono ?_; rintro e w1 ⟨rfl, hb⟩; (replace HA := keepA HA hb; (try replace HX := keepA HX hb); replace HB := keepB HB hb; clear hb))))
          all_goals (go_ret; exact ⟨rfl, HB.out.1⟩)
        | false =>
          cases c5 : regB r with
          | true =>
            obtain ⟨r1, r2⟩ := regB_iff.1 c5
            have l1 := fresh_right HL.out c5 c1 (by omega) (by omega) c4
            have l2 := fresh_was HL.out c5 c1 c4
            have l3 := fresh_uses (p := p) HL.out c5
            have d4 : decide (r < 1) = false := decide_eq_false (by omega)
            have d5 : decide (16 ≤ r) = false := decide_eq_false (by omega)
            clear c5
            go_enter Try.func6, Try.ntmps6; go_wp2; go_region; all_goals (skip; go_wp2_with (first | (first | (refine wl_loadW rfl _ rfl _ rfl _ HL.out HA.out ?_) | (refine wl_loadW rfl _ rfl _ rfl _ HL2.out HX.out ?_)) | (go_at_call 14; refine (right_any _ _ _ (by first | exact HL.out | exact HL2.out)).mono ?_; rintro e w1 ⟨rfl, hb⟩; (replace HA := keepA HA hb; (try replace HX := keepA HX hb); replace HB := keepB HB hb; clear hb)) | (go_at_call 16; refine (uses_any _ _ _ (by first | exact HL.out | exact HL2.out)).mono ?_; rintro e w1 ⟨rfl, hb⟩; (replace HA := keepA HA hb; (try replace HX := keepA HX hb); replace HB := keepB HB hb; clear hb)) | (go_at_call 7; refine (get_any _ _ _ (by first | exact HL.out | exact HL2.out)).mono ?_; rintro e w1 ⟨rfl, hb⟩; (replace HA := keepA HA hb; (try replace HX := keepA HX hb); replace HB := keepB HB hb; clear hb)) | (go_at_call 9; refine (set_any _ _ _ _ HL.out).mono ?_; rintro e wS ⟨rfl, hb⟩; (replace HA := keepA HA hb; replace HB := keepB HB hb; clear hb)) | (refine wl_new rfl _ _ rfl rfl _ rfl HL2.out _ (by rfl) ?_; intro wX hx hb; have HX := Lib.hid hx; replace HA := keepA HA hb; replace HB := keepB HB hb; clear hx hb) | (go_at_call 13; refine (awake_any _).mono ?_; rintro e w1 ⟨rfl, hb⟩; (replace HA := keepA HA hb; (try replace HX := keepA HX hb); replace HB := keepB HB hb; clear hb))))
            all_goals (go_ret; exact ⟨rfl, HB.out.1⟩)
          | false =>
            have q1 := equalMap (setM xs r p) xs HL2.out HL.out
            have l1 : (setM xs r p == xs) = true := by simp [setM, c5]
            have l2 : getM xs r = -1 := by simp [getM, c5]
            rcases regB_no c5 with r1 | r1
            · have d4 : decide (r < 1) = true := decide_eq_true r1
              clear c5
              go_enter Try.func6, Try.ntmps6; go_wp2; go_region; all_goals (skip; go_wp2_with (first | (first | (refine wl_loadW rfl _ rfl _ rfl _ HL.out HA.out ?_) | (refine wl_loadW rfl _ rfl _ rfl _ HL2.out HX.out ?_)) | (go_at_call 14; refine (right_any _ _ _ (by first | exact HL.out | exact HL2.out)).mono ?_; rintro e w1 ⟨rfl, hb⟩; (replace HA := keepA HA hb; (try replace HX := keepA HX hb); replace HB := keepB HB hb; clear hb)) | (go_at_call 16; refine (uses_any _ _ _ (by first | exact HL.out | exact HL2.out)).mono ?_; rintro e w1 ⟨rfl, hb⟩; (replace HA := keepA HA hb; (try replace HX := keepA HX hb); replace HB := keepB HB hb; clear hb)) | (go_at_call 7; refine (get_any _ _ _ (by first | exact HL.out | exact HL2.out)).mono ?_; rintro e w1 ⟨rfl, hb⟩; (replace HA := keepA HA hb; (try replace HX := keepA HX hb); replace HB := keepB HB hb; clear hb)) | (go_at_call 9; refine (set_any _ _ _ _ HL.out).mono ?_; rintro e wS ⟨rfl, hb⟩; (replace HA := keepA HA hb; replace HB := keepB HB hb; clear hb)) | (refine wl_new rfl _ _ rfl rfl _ rfl HL2.out _ (by rfl) ?_; intro wX hx hb; have HX := Lib.hid hx; replace HA := keepA HA hb; replace HB := keepB HB hb; clear hx hb) | (go_at_call 13; refine (awake_any _).mono ?_; rintro e w1 ⟨rfl, hb⟩; (replace HA := keepA HA hb; (try replace HX := keepA HX hb); replace HB := keepB HB hb; clear hb))))
              all_goals (go_ret; exact ⟨rfl, HB.out.1⟩)
            · have d4 : decide (r < 1) = false := decide_eq_false (by omega)
              have d5 : decide (16 ≤ r) = true := decide_eq_true r1
              clear c5
              go_enter Try.func6, Try.ntmps6; go_wp2; go_region; all_goals (skip; go_wp2_with (first | (first | (refine wl_loadW rfl _ rfl _ rfl _ HL.out HA.out ?_) | (refine wl_loadW rfl _ rfl _ rfl _ HL2.out HX.out ?_)) | (go_at_call 14; refine (right_any _ _ _ (by first | exact HL.out | exact HL2.out)).mono ?_; rintro e w1 ⟨rfl, hb⟩; (replace HA := keepA HA hb; (try replace HX := keepA HX hb); replace HB := keepB HB hb; clear hb)) | (go_at_call 16; refine (uses_any _ _ _ (by first | exact HL.out | exact HL2.out)).mono ?_; rintro e w1 ⟨rfl, hb⟩; (replace HA := keepA HA hb; (try replace HX := keepA HX hb); replace HB := keepB HB hb; clear hb)) | (go_at_call 7; refine (get_any _ _ _ (by first | exact HL.out | exact HL2.out)).mono ?_; rintro e w1 ⟨rfl, hb⟩; (replace HA := keepA HA hb; (try replace HX := keepA HX hb); replace HB := keepB HB hb; clear hb)) | (go_at_call 9; refine (set_any _ _ _ _ HL.out).mono ?_; rintro e wS ⟨rfl, hb⟩; (replace HA := keepA HA hb; replace HB := keepB HB hb; clear hb)) | (refine wl_new rfl _ _ rfl rfl _ rfl HL2.out _ (by rfl) ?_; intro wX hx hb; have HX := Lib.hid hx; replace HA := keepA HA hb; replace HB := keepB HB hb; clear hx hb) | (go_at_call 13; refine (awake_any _).mono ?_; rintro e w1 ⟨rfl, hb⟩; (replace HA := keepA HA hb; (try replace HX := keepA HX hb); replace HB := keepB HB hb; clear hb))))
              all_goals (go_ret; exact ⟨rfl, HB.out.1⟩)

end Go.Proofs.Ytfapojamfgeikaa.My
