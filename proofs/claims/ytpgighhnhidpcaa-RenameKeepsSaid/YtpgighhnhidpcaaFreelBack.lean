/- Walks over package freel and its reference: Back. -/
import Derived.Test.YtpgighhnhidpcaaFreelRGive
set_option linter.unusedSimpArgs false
namespace Go.Proofs.Ytpgighhnhidpcaa.My
open Go.RowKit
set_option maxHeartbeats 2000000 in
theorem back_yes (A : Option Addr) (n c : Nat) (h N p : Int) (xs : List Int) (w : World) (hr : RdA .i64 w A n xs) (ht : giveB n h N = true) : Calls Try.prog 39 #[.agg #[.slice A n c, .int .i64 h, .int .i64 N], .int .i64 p] w fun e w' => GivePost w w' n (xs.set (atZ n h (-1)).toNat p) (atZ n h (-1)) (N + 1) e := by
  obtain ⟨hn0, hn9, h0, h1, N0, N1, hs, dN⟩ := give_bounds ht
  obtain ⟨hb0, hb1⟩ := atZ_bounds h (-1) hn0
  obtain ⟨H1, hH⟩ : ∃ H, atZ n h (-1) = H := ⟨_, rfl⟩
  rw [hH] at hb0 hb1 ⊢
  have HH := Lib.hid hH
  have HR := Lib.hid hr
  have hnm : n ≤ 9223372036854775807 := by omega
  clear hr ht hH
  have HA : Hid (((w.alloc (.cells #[.slice A n c, .int .i64 h, .int .i64 N] 26)).alloc (.cells #[.slice none 0 0, .int .i64 0, .int .i64 0] 26)).heap[w.heap.size]? = some (.cells #[.slice A n c, .int .i64 h, .int .i64 N] 26 (0, 0))) := keepAa (newA w _) _; have HZ : Hid (((w.alloc (.cells #[.slice A n c, .int .i64 h, .int .i64 N] 26)).alloc (.cells #[.slice none 0 0, .int .i64 0, .int .i64 0] 26)).heap[w.heap.size + 1]? = some (.cells #[.slice none 0 0, .int .i64 0, .int .i64 0] 26 (0, 0))) := start_z w _ _; have HB := keepBa (keepBa (startB w) (.cells #[.slice A n c, .int .i64 h, .int .i64 N] 26)) (.cells #[.slice none 0 0, .int .i64 0, .int .i64 0] 26)
  go_enter Try.func39, Try.ntmps39
  go_wp2_with (first | (go_at_call 43; refine (sound_any _ _ _ _ _ _ hnm).mono ?_; rintro e w1 ⟨rfl, hb⟩; replace HA := keepA HA hb; replace HZ := keepA HZ hb; replace HB := keepB HB hb; (try clear c0 c1 c2); have c0 := (cellA HA 0).trans rfl; have c1 := (cellA HA 1).trans rfl; have c2 := (cellA HA 2).trans rfl; clear hb) | (go_at_call 44; refine (at_any _ _ _ _ _ (-1) _ hn0 hn9 h0 h1 (by omega) (by omega)).mono ?_; rintro e w1 ⟨rfl, hb⟩; rw [HH.out]; replace HA := keepA HA hb; replace HZ := keepA HZ hb; replace HB := keepB HB hb; (try clear c0 c1 c2); have c0 := (cellA HA 0).trans rfl; have c1 := (cellA HA 1).trans rfl; have c2 := (cellA HA 2).trans rfl; clear hb) | (refine cellStore rfl 3 _ _ rfl w.heap.size 1 rfl (.int .i64 H1) rfl rfl rfl HA.out (by simp) infoInt1 ?_; intro w3 ha ho; replace HB := keepBo HB (by omega) ho; replace HZ := keepAo HZ (by omega) ho; clear HA; have HA : Hid (w3.heap[w.heap.size]? = some (.cells #[.slice A n c, .int .i64 H1, .int .i64 N] 26 (0, 0))) := ha; (try clear c0 c1 c2); have c0 := (cellA HA 0).trans rfl; have c1 := (cellA HA 1).trans rfl; have c2 := (cellA HA 2).trans rfl; clear ha ho) | (refine rowLoad rfl 26 _ rfl _ rfl HA.out Try.underlying26 rfl infoFree ?_) | (go_at_call 57; refine (laid_any A n c H1 N H1 p xs _ (HR.out.below HB.out.1) hn0 hn9 hb1 hb0 (by omega) (by omega)).mono ?_; rintro e w1 ⟨A1, cA, rfl, hR1, hF1, hb⟩; have HF := Lib.hid (hF1.mono (show w.heap.size + 2 ≤ _ from (Array.getElem?_eq_some_iff.1 HZ.out).1)); replace HA := keepA HA hb; replace HZ := keepA HZ hb; replace HB := keepB HB hb; (try clear c0 c1 c2); have c0 := (cellA HA 0).trans rfl; have c1 := (cellA HA 1).trans rfl; have c2 := (cellA HA 2).trans rfl; have HR1 := Lib.hid hR1; clear hb hR1 hF1) | (refine rowStore rfl 26 _ _ rfl _ rfl _ rfl HZ.out infoFree (by rfl) (by simp [Value.oneCell']) ?_; intro w5 hz ho; replace HR1 := Lib.hid (HR1.out.only2 ho (fun a e1 _ => by have := HF.out a e1; omega)); replace HB := keepBo HB (by omega) ho; replace HA := keepAo HA (by omega) ho; clear HZ; have HZ := Lib.hid hz; clear hz ho))
  exact bodyPost_ret (results_cell_row rfl _ _ (w.heap.size + 1) 26 #[.slice A1 n cA, .int .i64 H1, .int .i64 (N + 1)] (0, 0) _ rfl HZ.out Try.underlying26 rfl infoFree) rfl ⟨A1, cA, rfl, HR1.out, HB.out.1⟩
set_option maxHeartbeats 2000000 in
theorem rback_yes (A : Option Addr) (n c : Nat) (h N p : Int) (xs : List Int) (w : World) (hr : RdA .i64 w A n xs) (ht : giveB n h N = true) : Calls Try.prog 40 #[.agg #[.slice A n c, .int .i64 h, .int .i64 N], .int .i64 p] w fun e w' => GivePost w w' n (xs.set (atZ n h (-1)).toNat p) (atZ n h (-1)) (N + 1) e := by
  obtain ⟨hn0, hn9, h0, h1, N0, N1, hs, dN⟩ := give_bounds ht
  obtain ⟨hb0, hb1⟩ := atZ_bounds h (-1) hn0
  obtain ⟨H1, hH⟩ : ∃ H, atZ n h (-1) = H := ⟨_, rfl⟩
  rw [hH] at hb0 hb1 ⊢
  have HH := Lib.hid hH
  have HR := Lib.hid hr
  have hnm : n ≤ 9223372036854775807 := by omega
  have hnz : ¬ n = 0 := by omega
  have em : (h + (n : Int) - 1).tmod (n : Int) = H1 := by
    rw [← HH.out, Int.tmod_eq_emod_of_nonneg (by omega)]
    unfold atZ
    rw [show h + (n : Int) - 1 = h + -1 + n by omega, Int.add_emod_right]
  clear hr ht hH
  have HA : Hid (((w.alloc (.cells #[.slice A n c, .int .i64 h, .int .i64 N] 26)).alloc (.cells #[.slice none 0 0, .int .i64 0, .int .i64 0] 26)).heap[w.heap.size]? = some (.cells #[.slice A n c, .int .i64 h, .int .i64 N] 26 (0, 0))) := keepAa (newA w _) _; have HZ : Hid (((w.alloc (.cells #[.slice A n c, .int .i64 h, .int .i64 N] 26)).alloc (.cells #[.slice none 0 0, .int .i64 0, .int .i64 0] 26)).heap[w.heap.size + 1]? = some (.cells #[.slice none 0 0, .int .i64 0, .int .i64 0] 26 (0, 0))) := start_z w _ _; have HB := keepBa (keepBa (startB w) (.cells #[.slice A n c, .int .i64 h, .int .i64 N] 26)) (.cells #[.slice none 0 0, .int .i64 0, .int .i64 0] 26)
  go_enter Try.func40, Try.ntmps40
  go_wp2_with (first | (go_at_call 55; refine (is_any _ _ _ _ _ _ hnm).mono ?_; rintro e w1 ⟨rfl, hb⟩; replace HA := keepA HA hb; replace HZ := keepA HZ hb; replace HB := keepB HB hb; (try clear c0 c1 c2); have c0 := (cellA HA 0).trans rfl; have c1 := (cellA HA 1).trans rfl; have c2 := (cellA HA 2).trans rfl; clear hb) | (go_at_call 56; refine (with_any _ _ _ _ _ _ _ xs _ (HR.out.below HB.out.1) hn9 (by omega)).mono ?_; rintro e wA ⟨A1, cA, rfl, hR1, hF1, hb⟩; have HF := Lib.hid (hF1.mono (show w.heap.size + 2 ≤ _ from (Array.getElem?_eq_some_iff.1 HZ.out).1)); replace HA := keepA HA hb; replace HZ := keepA HZ hb; replace HB := keepB HB hb; (try clear c0 c1 c2); have c0 := (cellA HA 0).trans rfl; have c1 := (cellA HA 1).trans rfl; have c2 := (cellA HA 2).trans rfl; rw [withR_yes hb0] at hR1; have HR1 := Lib.hid hR1; have hwA : w.heap.size + 1 < wA.heap.size := (Array.getElem?_eq_some_iff.1 HZ.out).1; clear hb hR1 hF1) | (refine rowNew rfl 26 _ _ rfl rfl _ rfl infoFree (by rfl) (by simp [Value.oneCell']) ?_; intro wX hx hb; have HX := Lib.hid hx; replace HA := keepA HA hb; replace HZ := keepA HZ hb; replace HB := keepB HB hb; (try clear c0 c1 c2); have c0 := (cellA HA 0).trans rfl; have c1 := (cellA HA 1).trans rfl; have c2 := (cellA HA 2).trans rfl; have HL1 := Lib.hid HR1.out.lt; replace HR1 := Lib.hid (HR1.out.below hb); have hgA : wA.heap.size < wX.heap.size := (Array.getElem?_eq_some_iff.1 hx).1; (try clear x0 x1 x2); have x0 := (cellA HX 0).trans rfl; have x1 := (cellA HX 1).trans rfl; have x2 := (cellA HX 2).trans rfl; clear hb hx) | (refine cellStore rfl 3 _ _ rfl wA.heap.size 1 rfl (.int .i64 H1) rfl rfl rfl HX.out (by simp) infoInt1 ?_; intro w3 ha ho; replace HR1 := Lib.hid (HR1.out.only2 ho (fun a e1 e2 => Nat.ne_of_lt (HL1.out a e1 e2))); replace HA := keepAo HA (by omega) ho; replace HZ := keepAo HZ (by omega) ho; replace HB := keepBo HB (by omega) ho; clear HX; have HX : Hid (w3.heap[wA.heap.size]? = some (.cells #[.slice A1 n cA, .int .i64 H1, .int .i64 N] 26 (0, 0))) := ha; (try clear c0 c1 c2); have c0 := (cellA HA 0).trans rfl; have c1 := (cellA HA 1).trans rfl; have c2 := (cellA HA 2).trans rfl; (try clear x0 x1 x2); have x0 := (cellA HX 0).trans rfl; have x1 := (cellA HX 1).trans rfl; have x2 := (cellA HX 2).trans rfl; clear ha ho) | (refine cellStore rfl 3 _ _ rfl wA.heap.size 2 rfl (.int .i64 (N + 1)) rfl rfl rfl HX.out (by simp) infoInt1 ?_; intro w4 ha ho; replace HR1 := Lib.hid (HR1.out.only2 ho (fun a e1 e2 => Nat.ne_of_lt (HL1.out a e1 e2))); replace HA := keepAo HA (by omega) ho; replace HZ := keepAo HZ (by omega) ho; replace HB := keepBo HB (by omega) ho; clear HX; have HX : Hid (w4.heap[wA.heap.size]? = some (.cells #[.slice A1 n cA, .int .i64 H1, .int .i64 (N + 1)] 26 (0, 0))) := ha; (try clear c0 c1 c2); have c0 := (cellA HA 0).trans rfl; have c1 := (cellA HA 1).trans rfl; have c2 := (cellA HA 2).trans rfl; (try clear x0 x1 x2); have x0 := (cellA HX 0).trans rfl; have x1 := (cellA HX 1).trans rfl; have x2 := (cellA HX 2).trans rfl; clear ha ho) | (refine rowLoad rfl 26 _ rfl _ rfl HX.out Try.underlying26 rfl infoFree ?_) | (refine rowStore rfl 26 _ _ rfl _ rfl _ rfl HZ.out infoFree (by rfl) (by simp [Value.oneCell']) ?_; intro w5 hz ho; replace HR1 := Lib.hid (HR1.out.only2 ho (fun a e1 _ => by have := HF.out a e1; omega)); replace HB := keepBo HB (by omega) ho; replace HA := keepAo HA (by omega) ho; clear HZ; have HZ := Lib.hid hz; clear hz ho) | (refine rowLoad rfl 26 _ rfl _ rfl HA.out Try.underlying26 rfl infoFree ?_))
  exact bodyPost_ret (results_cell_row rfl _ _ (w.heap.size + 1) 26 #[.slice A1 n cA, .int .i64 H1, .int .i64 (N + 1)] (0, 0) _ rfl HZ.out Try.underlying26 rfl infoFree) rfl ⟨A1, cA, rfl, HR1.out, HB.out.1⟩
def gvR (xs : List Int) (n : Nat) (h N p : Int) : List Int := if giveB n h N = true then xs.set (atZ n h N).toNat p else xs
def gvN (n : Nat) (h N : Int) : Int := if giveB n h N = true then N + 1 else N
def bkR (xs : List Int) (n : Nat) (h N p : Int) : List Int := if giveB n h N = true then xs.set (atZ n h (-1)).toNat p else xs
def bkH (n : Nat) (h N : Int) : Int := if giveB n h N = true then atZ n h (-1) else h
theorem give_any (A : Option Addr) (n c : Nat) (h N p : Int) (xs : List Int) (w : World) (hr : RdA .i64 w A n xs) (hnm : n ≤ 9223372036854775807) : Calls Try.prog 41 #[.agg #[.slice A n c, .int .i64 h, .int .i64 N], .int .i64 p] w fun e w' => GivePost w w' n (gvR xs n h N p) h (gvN n h N) e := by
  cases ht : giveB n h N with
  | false => simpa only [gvR, gvN, bkR, bkH, ht, Bool.false_eq_true, if_false] using give_no A n c h N p xs w hr hnm ht
  | true => simpa only [gvR, gvN, bkR, bkH, ht, if_true] using give_yes A n c h N p xs w hr ht
theorem rgive_any (A : Option Addr) (n c : Nat) (h N p : Int) (xs : List Int) (w : World) (hr : RdA .i64 w A n xs) (hnm : n ≤ 9223372036854775807) : Calls Try.prog 42 #[.agg #[.slice A n c, .int .i64 h, .int .i64 N], .int .i64 p] w fun e w' => GivePost w w' n (gvR xs n h N p) h (gvN n h N) e := by
  cases ht : giveB n h N with
  | false => simpa only [gvR, gvN, bkR, bkH, ht, Bool.false_eq_true, if_false] using rgive_no A n c h N p xs w hr hnm ht
  | true => simpa only [gvR, gvN, bkR, bkH, ht, if_true] using rgive_yes A n c h N p xs w hr ht
theorem back_any (A : Option Addr) (n c : Nat) (h N p : Int) (xs : List Int) (w : World) (hr : RdA .i64 w A n xs) (hnm : n ≤ 9223372036854775807) : Calls Try.prog 39 #[.agg #[.slice A n c, .int .i64 h, .int .i64 N], .int .i64 p] w fun e w' => GivePost w w' n (bkR xs n h N p) (bkH n h N) (gvN n h N) e := by
  cases ht : giveB n h N with
  | false => simpa only [gvR, gvN, bkR, bkH, ht, Bool.false_eq_true, if_false] using back_no A n c h N p xs w hr hnm ht
  | true => simpa only [gvR, gvN, bkR, bkH, ht, if_true] using back_yes A n c h N p xs w hr ht
theorem rback_any (A : Option Addr) (n c : Nat) (h N p : Int) (xs : List Int) (w : World) (hr : RdA .i64 w A n xs) (hnm : n ≤ 9223372036854775807) : Calls Try.prog 40 #[.agg #[.slice A n c, .int .i64 h, .int .i64 N], .int .i64 p] w fun e w' => GivePost w w' n (bkR xs n h N p) (bkH n h N) (gvN n h N) e := by
  cases ht : giveB n h N with
  | false => simpa only [gvR, gvN, bkR, bkH, ht, Bool.false_eq_true, if_false] using rback_no A n c h N p xs w hr hnm ht
  | true => simpa only [gvR, gvN, bkR, bkH, ht, if_true] using rback_yes A n c h N p xs w hr ht
end Go.Proofs.Ytpgighhnhidpcaa.My
