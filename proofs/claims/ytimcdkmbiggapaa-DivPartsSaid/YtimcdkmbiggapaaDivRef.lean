/- Walks over the reference of package div: its operations; the chapter's examples. -/
import Derived.Test.YtimcdkmbiggapaaDivDo
namespace Go.Proofs.Ytimcdkmbiggapaa.My
open Go.RowKit
theorem doZ_15 (a b : Int) : doZ 15 a b = (if b = 0 then 4294967295 else a / b, true) := rfl
theorem doZ_17 (a b : Int) : doZ 17 a b = (if b = 0 then a else a % b, true) := rfl
theorem doZ_14 (a b : Int) : doZ 14 a b = (if b = 0 then 4294967295 else (sgn a).tdiv (sgn b) % 4294967296, true) := rfl
theorem doZ_16 (a b : Int) : doZ 16 a b = (if b = 0 then a else (sgn a).tmod (sgn b) % 4294967296, true) := rfl
theorem doZ_no {op a b : Int} (c15 : op ≠ 15) (c17 : op ≠ 17) (c14 : op ≠ 14) (c16 : op ≠ 16) : doZ op a b = (0, false) := by unfold doZ; rw [if_neg c15, if_neg c17, if_neg c14, if_neg c16]
theorem beq_no {x y : Int} (h : x ≠ y) : (x == y) = false := by rw [beq_eq_false_iff_ne]; exact h
theorem tdiv_in {x y : Int} (hx0 : -2147483648 ≤ x) (hx1 : x < 2147483648) : -2147483648 ≤ x.tdiv y ∧ x.tdiv y ≤ 2147483648 := by
  have h := Int.natAbs_tdiv_le_natAbs x y
  omega
theorem tmod_in {x y : Int} (hx0 : -2147483648 ≤ x) (hx1 : x < 2147483648) : -2147483648 ≤ x.tmod y ∧ x.tmod y ≤ 2147483648 := by
  have h : (x.tmod y).natAbs ≤ x.natAbs := by rw [Int.natAbs_tmod]; exact Nat.mod_le _ _
  omega
theorem wrap64_same {n : Int} (h0 : -2147483648 ≤ n) (h1 : n ≤ 2147483648) : wrap64 n = n := by unfold wrap64; omega
theorem wrapi64_same {n : Int} (h0 : -2147483648 ≤ n) (h1 : n ≤ 2147483648) : IntKind.i64.wrap n = n := by rw [IntKind.wrap_i64]; omega

theorem rdo_any (op a b : Int) (w : World) (a0 : 0 ≤ a) (a1 : a < 4294967296) (b0 : 0 ≤ b) (b1 : b < 4294967296) : Calls Try.prog 18 #[.int .i64 op, .int .u32 a, .int .u32 b] w fun e w' => e = .returned (.tuple #[.int .u32 (doZ op a b).1, .bool (doZ op a b).2]) ∧ w = w' := by
  have wa := wrap_sgn a0 a1
  have wb := wrap_sgn b0 b1
  have sb := sgn_bounds b0 b1
  have sa := sgn_bounds a0 a1
  by_cases cb : b = 0
  · have c' : (b == 0) = true := by rw [beq_iff_eq]; exact cb
    have c2 : (sgn b == 0) = true := by rw [cb]; rfl
    by_cases c15 : op = 15
    · subst c15
      rw [doZ_15, if_pos cb]
      clear cb
      go_enter Try.func18, Try.ntmps18; go_wp2
      go_ret2
      exact ⟨rfl, rfl⟩
    · by_cases c17 : op = 17
      · subst c17
        rw [doZ_17, if_pos cb]
        clear cb
        go_enter Try.func18, Try.ntmps18; go_wp2
        go_ret2
        exact ⟨rfl, rfl⟩
      · by_cases c14 : op = 14
        · subst c14
          rw [doZ_14, if_pos cb]
          clear cb
          go_enter Try.func18, Try.ntmps18; go_wp2
          go_ret2
          exact ⟨rfl, rfl⟩
        · by_cases c16 : op = 16
          · subst c16
            rw [doZ_16, if_pos cb]
            clear cb
            go_enter Try.func18, Try.ntmps18; go_wp2
            go_ret2
            exact ⟨rfl, rfl⟩
          · rw [doZ_no c15 c17 c14 c16]
            have e1 := beq_no c15
            have e2 := beq_no c17
            have e3 := beq_no c14
            have e4 := beq_no c16
            clear cb c15 c17 c14 c16
            go_enter Try.func18, Try.ntmps18; go_wp2
            go_ret2
            exact ⟨rfl, rfl⟩
  · have c' : (b == 0) = false := by rw [beq_eq_false_iff_ne]; exact cb
    have nb := sgn_zero b0 b1 cb
    have c2 : (sgn b == 0) = false := by rw [beq_eq_false_iff_ne]; exact nb
    have t1 := tdiv_in (y := sgn b) sa.1 sa.2
    have t2 := tmod_in (y := sgn b) sa.1 sa.2
    have t3 := wrapi64_same t1.1 t1.2
    have t4 := wrapi64_same t2.1 t2.2
    by_cases c15 : op = 15
    · subst c15
      rw [doZ_15, if_neg cb]
      go_enter Try.func18, Try.ntmps18; go_wp2
      go_ret2
      exact ⟨rfl, rfl⟩
    · by_cases c17 : op = 17
      · subst c17
        rw [doZ_17, if_neg cb]
        go_enter Try.func18, Try.ntmps18; go_wp2
        go_ret2
        exact ⟨rfl, rfl⟩
      · by_cases c14 : op = 14
        · subst c14
          rw [doZ_14, if_neg cb]
          go_enter Try.func18, Try.ntmps18; go_wp2
          go_ret2
          exact ⟨rfl, rfl⟩
        · by_cases c16 : op = 16
          · subst c16
            rw [doZ_16, if_neg cb]
            go_enter Try.func18, Try.ntmps18; go_wp2
            go_ret2
            exact ⟨rfl, rfl⟩
          · rw [doZ_no c15 c17 c14 c16]
            have e1 := beq_no c15
            have e2 := beq_no c17
            have e3 := beq_no c14
            have e4 := beq_no c16
            clear cb c15 c17 c14 c16
            go_enter Try.func18, Try.ntmps18; go_wp2
            go_ret2
            exact ⟨rfl, rfl⟩

theorem aw_q : runQ 7 2 = 3 := (runQ_eq (by decide) (by decide) (by decide) (by decide)).trans rfl
theorem aw_r : runR 7 2 = 1 := (runR_eq (by decide) (by decide) (by decide) (by decide)).trans rfl
theorem aw_d : doZ 16 4294967289 2 = (4294967295, true) := by decide
theorem awake_any (w : World) : Calls Try.prog 14 #[] w fun e w' => e = .returned (.bool true) ∧ Below w.heap.size w w' := by
  have HB := startB w
  have HO := Lib.hid (ok_new (a := 7) (b := 2) (by decide) (by decide))
  have q1 : (runD (newD 7 2)).q = 3 := aw_q
  have q2 : (runD (newD 7 2)).r = 1 := aw_r
  have q3 := aw_d
  go_enter Try.func14, Try.ntmps14
  go_wp2_with (first | (go_at_call 12; refine (new_any _ _ _).mono ?_; rintro e w1 ⟨rfl, hb⟩; replace HB := keepB HB hb; clear hb) | (go_at_call 15; refine (run_any (newD 7 2) _ HO.out).mono ?_; rintro e w1 ⟨rfl, hb⟩; replace HB := keepB HB hb; clear hb) | (go_at_call 17; refine (do_any _ _ _ _ (by decide) (by decide) (by decide) (by decide)).mono ?_; rintro e w1 ⟨rfl, hb⟩; replace HB := keepB HB hb; clear hb))
  go_ret
  exact ⟨rfl, HB.out.1⟩
/-- 'DivDoes': the program's operation and the reference's answer alike. -/
theorem does_any (op a b : Int) (w : World) (a0 : 0 ≤ a) (a1 : a < 4294967296) (b0 : 0 ≤ b) (b1 : b < 4294967296) : Calls Try.prog 5 #[.int .i64 op, .int .u32 a, .int .u32 b] w fun e w' => e = .returned (.bool true) ∧ Below w.heap.size w w' := by
  have HB := startB w
  go_enter Try.func5, Try.ntmps5
  go_wp2_with (first | (go_at_call 17; refine (do_any _ _ _ _ a0 a1 b0 b1).mono ?_; rintro e w1 ⟨rfl, hb⟩; replace HB := keepB HB hb; clear hb) | (go_at_call 18; refine (rdo_any _ _ _ _ a0 a1 b0 b1).mono ?_; rintro e w1 ⟨rfl, rfl⟩) | (go_at_call 14; refine (awake_any _).mono ?_; rintro e w1 ⟨rfl, hb⟩; replace HB := keepB HB hb; clear hb))
  go_ret
  exact ⟨rfl, HB.out.1⟩

set_option maxHeartbeats 1000000 in
/-- 'DivRuns': the program's run and the reference's answer alike. -/
theorem runs_any (s : DV) (w : World) (h : okD s) : Calls Try.prog 4 #[.agg #[.int .u32 s.n, .int .u32 s.d, .int .u32 s.q, .int .u32 s.r, .int .i64 s.l]] w fun e w' => e = .returned (.bool true) ∧ Below w.heap.size w w' := by
  have HB := keepBa (startB w) (.cells #[.int .u32 s.n, .int .u32 s.d, .int .u32 s.q, .int .u32 s.r, .int .i64 s.l] 24)
  have HA : Hid ((w.alloc (.cells #[.int .u32 s.n, .int .u32 s.d, .int .u32 s.q, .int .u32 s.r, .int .i64 s.l] 24)).heap[w.heap.size]? = some (.cells #[.int .u32 s.n, .int .u32 s.d, .int .u32 s.q, .int .u32 s.r, .int .i64 s.l] 24 (0, 0))) := heap_alloc_new _ _
  have HOK := Lib.hid h
  clear h
  go_enter Try.func4, Try.ntmps4
  go_wp2_with (first | (refine rowLoad rfl 24 _ rfl _ rfl HA.out Try.underlying24 rfl infoRef ?_) | (go_at_call 10; refine (to_any _ _ _ _ _ _).mono ?_; rintro e w1 ⟨rfl, hb⟩; (replace HA := keepA HA hb; replace HB := keepB HB hb; clear hb)) | (go_at_call 15; refine (run_any s _ HOK.out).mono ?_; rintro e w1 ⟨rfl, hb⟩; (replace HA := keepA HA hb; replace HB := keepB HB hb; clear hb)) | (go_at_call 16; refine (rrun_any s _ HOK.out).mono ?_; rintro e w1 ⟨rfl, hb⟩; (replace HA := keepA HA hb; replace HB := keepB HB hb; clear hb)) | (go_at_call 14; refine (awake_any _).mono ?_; rintro e w1 ⟨rfl, hb⟩; replace HB := keepB HB hb; clear hb))
  go_ret
  exact ⟨rfl, HB.out.1⟩

end Go.Proofs.Ytimcdkmbiggapaa.My
