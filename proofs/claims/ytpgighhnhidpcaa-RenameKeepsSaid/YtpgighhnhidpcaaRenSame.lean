/- Equality of names, and which are looked at. -/
import Derived.Test.YtpgighhnhidpcaaRenWords
import Derived.Test.YtpgighhnhidpcaaFreelRList
set_option linter.unusedSimpArgs false
set_option linter.unusedVariables false
namespace Go.Proofs.Ytpgighhnhidpcaa.My
open Go.RowKit
theorem equalMap (xs ys : List Int) (hx : xs.length = 16) (hy : ys.length = 16) (w : World) : (Op.equalIn 10000 23 (.agg (ma .i64 xs)) (.agg (ma .i64 ys))).run Try.prog w = .ok (xs == ys) w :=
  equalIn_ma w 9998 23 3 16 .i64 Try.underlying23 Try.underlying3 (fun _ => by kernel_rfl) xs ys hx hy
theorem small_any (A : Option Addr) (n c : Nat) (m d : List Int) (h N s : Int) (w : World) (hm : m.length = 16) (hd : d.length = 16) (hnm : n ≤ 9223372036854775807) : Calls Try.prog 8 #[.agg (nm m d (.slice A n c) h N s)] w fun e w' => e = .returned (.bool (decide (n ≤ 100))) ∧ Below w.heap.size w w' := by
  have HB := startB w
  cases hc : decide ((n : Int) ≤ 100)
  all_goals
    go_enter Try.func8, Try.ntmps8
    go_wp2_with (refine wlBox rfl 29 _ rfl (nm m d (.slice A n c) h N s) rfl ?_; intro gU w1 hgU hgU' hu hb; have HU := Lib.hid hu; replace HB := keepB HB hb; have u32 := (cellA HU 32).trans (nm_32 hm hd); clear hu hb)
    go_ret
    exact ⟨ret_bool (by simp at hc ⊢; omega), HB.out.1⟩
theorem same_any (A C : Option Addr) (n c k : Nat) (m d : List Int) (h N s : Int) (xs : List Int) (w : World) (hx : RdA .i64 w A n xs) (hy : RdA .i64 w C n xs) (hnm : n ≤ 9223372036854775807) (hm : m.length = 16) (hd : d.length = 16) : Calls Try.prog 12 #[.agg (nm m d (.slice A n c) h N s), .agg (nm m d (.slice C n k) h N s)] w fun e w' => e = .returned (.bool true) ∧ Below w.heap.size w w' := by
  have HB := startB w
  have HX := Lib.hid hx
  have HY := Lib.hid hy
  have q1 := equalMap m m hm hm
  have q2 := equalMap d d hd hd
  have e1 : (m == m) = true := beq_self_eq_true _
  have e2 : (d == d) = true := beq_self_eq_true _
  have e3 : (s == s) = true := beq_self_eq_true _
  clear hx hy
  go_enter Try.func12, Try.ntmps12
  go_wp2_with (first | (refine wlBox rfl 29 _ rfl (nm m d (.slice A n c) h N s) rfl ?_; intro gS w1 hgS hgS' hs hb; have HS := Lib.hid hs; replace HX := Lib.hid (HX.out.below hb); replace HY := Lib.hid (HY.out.below hb); replace HB := keepB HB hb; clear hs hb) | (refine wlBox rfl 29 _ rfl (nm m d (.slice C n k) h N s) rfl ?_; intro gZ w2 hgZ hgZ' hs hb; have HZ := Lib.hid hs; replace HS := keepA HS hb; replace HX := Lib.hid (HX.out.below hb); replace HY := Lib.hid (HY.out.below hb); replace HB := keepB HB hb; (try clear s35 z35); have s35 := (cellA HS 35).trans (nm_35 hm hd); have z35 := (cellA HZ 35).trans (nm_35 hm hd); clear hs hb) | (refine partLoad rfl 23 _ rfl gS 0 rfl (nm_map HS.out) Try.underlying23 rfl (szM hm) ?_) | (refine partLoad rfl 23 _ rfl gZ 0 rfl (nm_map HZ.out) Try.underlying23 rfl (szM hm) ?_) | (refine partLoad rfl 23 _ rfl gS 16 rfl (nm_done hm HS.out) Try.underlying23 rfl (szM hd) ?_) | (refine partLoad rfl 23 _ rfl gZ 16 rfl (nm_done hm HZ.out) Try.underlying23 rfl (szM hd) ?_) | (refine partLoad rfl 26 _ rfl gS 32 rfl (nm_free hm hd HS.out) Try.underlying26 rfl infoFr ?_) | (refine partLoad rfl 26 _ rfl gZ 32 rfl (nm_free hm hd HZ.out) Try.underlying26 rfl infoFr ?_) | (go_at_call 27; refine (free_any A C n c k h N xs _ HX.out HY.out hnm).mono ?_; rintro e w4 ⟨rfl, hb⟩; replace HS := keepA HS hb; replace HZ := keepA HZ hb; replace HB := keepB HB hb; (try clear s35 z35); have s35 := (cellA HS 35).trans (nm_35 hm hd); have z35 := (cellA HZ 35).trans (nm_35 hm hd); clear hb))
  go_ret
  exact ⟨rfl, HB.out.1⟩
end Go.Proofs.Ytpgighhnhidpcaa.My
