/- The law of parts: it makes no difference where steps are done. -/
import Derived.Test.YtimcdkmbiggapaaDivRef
namespace Go.Proofs.Ytimcdkmbiggapaa.My
open Go.RowKit

theorem cut_new (a b : Int) : cutD (newD a b) = newD a b := rfl
theorem iter_newl (a b : Int) (k : Nat) (hk : k ≤ 32) : (iterD k (newD a b)).l = 32 - k := by
  have h := iter_l (newD a b) k (by rw [show lf (newD a b).l = 32 from rfl]; omega)
  rwa [cut_new] at h
theorem step_still {s : DV} (h : s.l = 0) : stepD s = s := by
  unfold stepD
  rw [if_pos (by rw [h]; rfl)]
  cases s
  simp_all
theorem iter_more (a b : Int) : ∀ m, iterD (32 + m) (newD a b) = iterD 32 (newD a b)
  | 0 => rfl
  | m + 1 => by
    show stepD (iterD (32 + m) (newD a b)) = _
    rw [iter_more a b m]
    exact step_still (iter_newl a b 32 (by omega))
theorem parts (a b : Int) (k : Nat) : runD (iterD k (newD a b)) = runD (newD a b) := by
  have h0 : runD (newD a b) = iterD 32 (newD a b) := rfl
  rw [h0]
  unfold runD
  rw [iter_add]
  by_cases h : k ≤ 32
  · rw [iter_newl a b k h, lf_in (by omega) (by omega), show ((32 : Int) - k).toNat + k = 32 by omega]
  · obtain ⟨m, rfl⟩ : ∃ m, k = 32 + m := ⟨k - 32, by omega⟩
    rw [iter_more, iter_newl a b 32 (by omega)]
    rw [show (lf ((32 : Int) - ((32 : Nat) : Int))).toNat = 0 from rfl, Nat.zero_add, iter_more]

set_option maxHeartbeats 2000000 in
theorem parts_any (a b : Int) (n : Nat) (w : World) (hn : n < 256) (a0 : 0 ≤ a) (a1 : a < 4294967296) (b0 : 0 ≤ b) (b1 : b < 4294967296) : Calls Try.prog 7 #[.int .u32 a, .int .u32 b, .int .u8 n] w fun e w' => e = .returned (.bool true) ∧ Below w.heap.size w w' := by
  have HB := startB w
  have HN := Lib.hid (ok_new ⟨a0, a1⟩ ⟨b0, b1⟩)
  go_enter Try.func7, Try.ntmps7
  go_wp2_with (first | (go_at_call 12; refine (new_any _ _ _).mono ?_; rintro e wN ⟨rfl, hb⟩; replace HB := keepB HB hb; have HBN := Lib.hid HB.out.2; clear hb) | (refine rowNew rfl 26 _ _ rfl rfl _ rfl infoDiv (by rfl) (by simp [Value.oneCell']) ?_; intro w2 ha hb; have HA := Lib.hid ha; replace HB := keepB HB hb; clear ha hb))

  go_loopw [8] (fun i wr => ∃ k : Nat, k ≤ n ∧ i = .int .i64 k ∧ Hid (wr.heap[wN.heap.size]? = some (.cells #[.int .u32 (iterD k (newD a b)).n, .int .u32 (iterD k (newD a b)).d, .int .u32 (iterD k (newD a b)).q, .int .u32 (iterD k (newD a b)).r, .int .i64 (iterD k (newD a b)).l] 26 (0, 0))) ∧ Hid (Below w.heap.size w wr ∧ w.heap.size ≤ wr.heap.size)) (fun i _ => n - (intOf i).toNat)
  case atStart => exact ⟨0, Nat.zero_le _, rfl, HA, HB⟩
  case round =>
    clear HA HB
    obtain ⟨k, hk, rfl, HA, HB⟩ := hrel
    have HO := Lib.hid (ok_iter HN.out k)
    by_cases hlt : k < n
    · go_wp2_with (first | (refine rowLoad rfl 26 _ rfl _ rfl HA.out Try.underlying26 rfl infoDiv ?_) | (refine rowStore rfl 26 _ _ rfl _ rfl _ rfl HA.out infoDiv (by rfl) (by simp [Value.oneCell']) ?_; intro w2 hA2 ho; replace HB := keepBo HB HBN.out ho; replace HA := Lib.hid hA2; clear hA2 ho) | (go_at_call 9; refine (step_any (iterD k (newD a b)) _ HO.out).mono ?_; rintro e w1 ⟨rfl, hb⟩; (replace HA := keepA HA hb; replace HB := keepB HB hb; clear hb)))
      go_roundw
      case rel => exact ⟨k + 1, by omega, by go_num, HA, HB⟩
      case measure => simp [intOf]; omega
    · have hq : (runD (iterD k (newD a b))).q = (runD (newD a b)).q := by rw [parts]
      have hr : (runD (iterD k (newD a b))).r = (runD (newD a b)).r := by rw [parts]
      have hz : (doZ 15 a b).1 = (runD (newD a b)).q := (runQ_eq a0 a1 b0 b1).symm
      have hz2 : (doZ 15 a b).2 = true := rfl
      go_wp2_with (first | (refine rowLoad rfl 26 _ rfl _ rfl HA.out Try.underlying26 rfl infoDiv ?_) | (go_at_call 12; refine (new_any _ _ _).mono ?_; rintro e wN ⟨rfl, hb⟩; (replace HA := keepA HA hb; replace HB := keepB HB hb; clear hb)) | (go_at_call 15; go_must (first | (with_reducible refine (run_any (iterD k (newD a b)) _ HO.out).mono ?_) | (refine (run_any (newD a b) _ HN.out).mono ?_)); rintro e w1 ⟨rfl, hb⟩; (replace HA := keepA HA hb; replace HB := keepB HB hb; clear hb)) | (go_at_call 17; refine (do_any _ _ _ _ a0 a1 b0 b1).mono ?_; rintro e w1 ⟨rfl, hb⟩; (replace HA := keepA HA hb; replace HB := keepB HB hb; clear hb)) | (go_at_call 14; refine (awake_any _).mono ?_; rintro e w1 ⟨rfl, hb⟩; (replace HA := keepA HA hb; replace HB := keepB HB hb; clear hb)))

      go_ret
      exact ⟨rfl, HB.out.1⟩

end Go.Proofs.Ytimcdkmbiggapaa.My
